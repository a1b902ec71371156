/-
  The texts NuTree NuWeigh NuLent NuEq NuState NuLentB NuLentC NuLentD NuB NuKind NuA NuUtf NuAlone NuOrd NuStateB NuStateC NuStateD NuSpare NuTexts NuTerm NuUns NuPerf NuGrt NuOwn NuTreeOwn NuBox NuField NuMap NuCheck NuShape of this claim, one behind the other.
-/
import Derived.WalkKit
import Derived.Below
import Derived.Lib.Strings
import Derived.Laws.Rows
import GoSem.Core.Utf8
import Derived.Lib.Bytealg
import Derived.Lib.Small
import Derived.Sort.Grow
import Derived.Sort.Statements
import Derived.Deep.Draws
import Derived.Deep.MidRow
import Derived.Laws.IdiomCopy
import Derived.ArgAppend
import Derived.Deep.Upon
import Derived.Maps.AppendAt
set_option maxRecDepth 100000
namespace Go.Proofs.Nu
open Go Go.RowKit
inductive VT where
 |mk (kind num:Int) (text:ByteArray) (elem:Int) (list:List VT)
def VT.kind:VT→Int| .mk k _ _ _ _=>k
def VT.num:VT→Int| .mk _ n _ _ _=>n
def VT.text:VT→ByteArray| .mk _ _ t _ _=>t
def VT.elem:VT→Int| .mk _ _ _ e _=>e
def VT.list:VT→List VT| .mk _ _ _ _ l=>l
theorem VT.eta (t:VT):VT.mk t.kind t.num t.text t.elem t.list=t:=by cases t;rfl
structure VT.Fine (t:VT):Prop where
 k0: -9223372036854775808≤t.kind
 k1:t.kind≤9223372036854775807
 n0:0≤t.num
 n1:t.num≤18446744073709551615
 e0: -9223372036854775808≤t.elem
 e1:t.elem≤9223372036854775807
 x1:t.text.size≤maxLen
def VT.cells (t:VT) (lv:Value):List Value:=[.int .i64 t.kind,.int .u64 t.num,.string t.text,lv,.int .i64 t.elem]
abbrev VT.agg (t:VT) (lv:Value):Value:= .agg #[.int .i64 t.kind,.int .u64 t.num,.string t.text,lv,.int .i64 t.elem]
structure At5 (w:World) (b o:Nat) (t:VT) (lv:Value):Prop where
 kind:w.cell? ⟨b,o,none⟩=some (.int .i64 t.kind)
 num:w.cell? ⟨b,o+1,none⟩=some (.int .u64 t.num)
 text:w.cell? ⟨b,o+2,none⟩=some (.string t.text)
 list:w.cell? ⟨b,o+3,none⟩=some lv
 elem:w.cell? ⟨b,o+4,none⟩=some (.int .i64 t.elem)
def LAt (B:Nat) (w:World):Nat→Value→List VT→Prop
 |0,_,_=>False
 |n+1,v,ts=>(ts=[]∧∃ p c,v= .slice p 0 c)∨
   ∃ b off c,v= .slice (some ⟨b,off,none⟩) ts.length c∧b<B∧ts.length≤maxLen∧∀ i t,ts[i]? =some t→t.Fine∧∃ lv,At5 w b (off+i*5) t lv∧LAt B w n lv t.list
theorem At5.below {B:Nat} {w w':World} {b o:Nat} {t:VT} {lv:Value} (h:At5 w b o t lv) (hb:Below B w w') (hlt:b<B):At5 w' b o t lv:=
 ⟨(hb.cell hlt).trans h.kind,(hb.cell hlt).trans h.num,(hb.cell hlt).trans h.text,(hb.cell hlt).trans h.list,(hb.cell hlt).trans h.elem⟩
theorem LAt.below {B:Nat} {w w':World} (hb:Below B w w'):∀ {n:Nat} {v:Value} {ts:List VT},LAt B w n v ts→LAt B w' n v ts
 |0,_,_,h=>h
 |n+1,v,ts,h=>by
  rcases h with h|⟨b,off,c,h1,h2,h3,h4⟩
  ·exact .inl h
  ·exact .inr ⟨b,off,c,h1,h2,h3,fun i t ht=>let ⟨hf,lv,ha,hl⟩:=h4 i t ht;⟨hf,lv,ha.below hb h2,LAt.below hb hl⟩⟩
theorem LAt.up {B B':Nat} {w:World} (hB:B≤B'):∀ {n:Nat} {v:Value} {ts:List VT},LAt B w n v ts→LAt B' w n v ts
 |0,_,_,h=>h
 |n+1,v,ts,h=>by
  rcases h with h|⟨b,off,c,h1,h2,h3,h4⟩
  ·exact .inl h
  ·exact .inr ⟨b,off,c,h1,by omega,h3,fun i t ht=>let ⟨hf,lv,ha,hl⟩:=h4 i t ht;⟨hf,lv,ha,LAt.up hB hl⟩⟩
theorem LAt.mono {B:Nat} {w:World}:∀ {n m:Nat} {v:Value} {ts:List VT},n≤m→LAt B w n v ts→LAt B w m v ts
 |0,_,_,_,_,h=>h.elim
 |n+1,0,_,_,hn,_=>by omega
 |n+1,m+1,v,ts,hn,h=>by
  rcases h with h|⟨b,off,c,h1,h2,h3,h4⟩
  ·exact .inl h
  ·exact .inr ⟨b,off,c,h1,h2,h3,fun i t ht=>let ⟨hf,lv,ha,hl⟩:=h4 i t ht;⟨hf,lv,ha,LAt.mono (by omega) hl⟩⟩
theorem LAt.slice {B:Nat} {w:World} {n:Nat} {v:Value} {ts:List VT} (h:LAt B w n v ts):∃ p c,v= .slice p ts.length c:=by
 cases n with
 |zero=>exact h.elim
 |succ n=>
  rcases h with ⟨rfl,p,c,rfl⟩|⟨b,off,c,rfl,_⟩
  ·exact ⟨p,c,rfl⟩
  ·exact ⟨_,c,rfl⟩
theorem LAt.len {B:Nat} {w:World} {n:Nat} {v:Value} {ts:List VT} (h:LAt B w n v ts):ts.length≤maxLen:=by
 cases n with
 |zero=>exact h.elim
 |succ n=>
  rcases h with ⟨rfl,_⟩|⟨b,off,c,_,_,h,_⟩
  ·exact Nat.zero_le _
  ·exact h
def VAt (B:Nat) (w:World) (n:Nat) (v:Value) (t:VT):Prop:=t.Fine∧∃ lv,v=t.agg lv∧LAt B w n lv t.list
theorem VAt.below {B:Nat} {w w':World} {n:Nat} {v:Value} {t:VT} (h:VAt B w n v t) (hb:Below B w w'):VAt B w' n v t:=
 let ⟨hf,lv,h1,h2⟩:=h;⟨hf,lv,h1,h2.below hb⟩
mutual
def wt:VT→Nat→Nat
 | .mk _ _ s _ l,n=>wts l (n+1+s.size/64)
def wts:List VT→Nat→Nat
 |[],n=>n
 |t::ts,n=>if n≤100000 then wts ts (wt t n) else n
end
theorem wt_eq (t:VT) (n:Nat):wt t n=wts t.list (n+1+t.text.size/64):=by cases t;simp [wt,VT.list,VT.text]
theorem wts_nil (n:Nat):wts [] n=n:=by simp [wts]
theorem wts_big (ts:List VT) {n:Nat} (h:100000<n):wts ts n=n:=by
 cases ts with
 |nil=>simp [wts]
 |cons t ts=>rw [wts,if_neg (by omega)]
theorem wts_step {ts:List VT} {k:Nat} {t:VT} (hk:ts[k]? =some t) {n:Nat} (h:n≤100000):wts (ts.drop k) n=wts (ts.drop (k+1)) (wt t n):=by
 have hlt:=(List.getElem?_eq_some_iff.1 hk).1
 have:ts.drop k=t::ts.drop (k+1):=by
  rw [List.drop_eq_getElem_cons hlt]
  congr 1
  exact (List.getElem?_eq_some_iff.1 hk).2
 rw [this,wts,if_pos h]
theorem wts_end (ts:List VT) (n:Nat):wts (ts.drop ts.length) n=n:=by rw [List.drop_length,wts_nil]
mutual
theorem wt_gt:∀ (t:VT) (n:Nat),n<wt t n
 | .mk _ _ s _ l,n=>by rw [wt];exact Nat.lt_of_lt_of_le (by omega) (wts_ge l _)
theorem wts_ge:∀ (ts:List VT) (n:Nat),n≤wts ts n
 |[],n=>by rw [wts];exact Nat.le_refl _
 |t::ts,n=>by
  rw [wts]
  split
  ·exact Nat.le_trans (Nat.le_of_lt (wt_gt t n)) (wts_ge ts _)
  ·exact Nat.le_refl _
end
def Sms (ts:List VT):Prop:=∃ n,wts ts n≤100000
theorem wts_len:∀ (ts:List VT) (n:Nat),wts ts n≤100000→n+ts.length≤100000
 |[],n,h=>by rw [wts] at h;simpa using h
 |t::ts,n,h=>by
  rw [wts] at h
  split at h
  ·have:=wts_len ts _ h
   have:=wt_gt t n
   simp only [List.length_cons]
   omega
  ·omega
theorem Sms.len {ts:List VT} (h:Sms ts):ts.length≤100000:=by
 obtain ⟨n,h⟩:=h
 have:=wts_len ts n h
 omega
theorem Sms.child:∀ {ts:List VT} {k:Nat} {t:VT},Sms ts→ts[k]? =some t→Sms t.list
 |[],k,t,_,h=>by simp at h
 |a::ts,0,t,⟨n,h⟩,hk=>by
  simp at hk
  subst hk
  rw [wts] at h
  split at h
  ·have:=wts_ge ts (wt a n)
   rw [wt_eq] at this h
   exact ⟨_,Nat.le_trans this h⟩
  ·omega
 |a::ts,k+1,t,⟨n,h⟩,hk=>by
  simp at hk
  rw [wts] at h
  split at h
  ·exact Sms.child ⟨_,h⟩ hk
  ·omega
theorem Sms.one {t:VT} {n:Nat} (h:wt t n≤100000):Sms t.list:=by
 rw [wt_eq] at h
 exact ⟨_,h⟩
structure Apart (lo hi:Nat) (w w':World):Prop where
 os:w'.os=w.os
 tape:w'.tape=w.tape
 output:w'.output=w.output
 size:w.heap.size≤w'.heap.size
 block:∀ k,k<w.heap.size→(k<lo∨hi≤k)→w'.heap[k]? =w.heap[k]?
theorem Apart.refl (lo hi:Nat) (w:World):Apart lo hi w w:=⟨rfl,rfl,rfl,Nat.le_refl _,fun _ _ _=>rfl⟩
theorem Apart.trans {lo hi:Nat} {a b c:World} (h:Apart lo hi a b) (k:Apart lo hi b c):Apart lo hi a c:=
 ⟨k.os.trans h.os,k.tape.trans h.tape,k.output.trans h.output,Nat.le_trans h.size k.size,fun i hi' ho=>(k.block i (Nat.lt_of_lt_of_le hi' h.size) ho).trans (h.block i hi' ho)⟩
theorem Apart.wide {lo hi lo' hi':Nat} {a b:World} (h:Apart lo hi a b) (h1:lo'≤lo) (h2:hi≤hi'):Apart lo' hi' a b:=
 ⟨h.os,h.tape,h.output,h.size,fun i hi ho=>h.block i hi (by omega)⟩
theorem Apart.of_below {B lo hi:Nat} {a b:World} (h:Below B a b) (hB:a.heap.size≤B):Apart lo hi a b:=⟨h.os,h.tape,h.output,h.size,fun i hi _=>h.block i (by omega)⟩
theorem Apart.below {lo hi:Nat} {a b:World} (h:Apart lo hi a b) {B:Nat} (hB:B≤lo) (hs:B≤a.heap.size):Below B a b:=⟨h.os,h.tape,h.output,h.size,fun i hi=>h.block i (by omega) (by omega)⟩
theorem Apart.alloc {lo hi:Nat} {a w:World} (h:Apart lo hi a w) (o:Obj):Apart lo hi a (w.alloc o):=
 h.trans (Apart.of_below ((Below.refl _ _).alloc (Nat.le_refl _) _) (Nat.le_refl _))
theorem Apart.drew {lo hi:Nat} {a w:World} (h:Apart lo hi a w):Apart lo hi a w.drew:=⟨h.os,h.tape,h.output,h.size,h.block⟩
theorem Apart.setCell {lo hi:Nat} {a w:World} (h:Apart lo hi a w) {p:Addr} (h1:lo≤p.block) (h2:p.block<hi) (u:Value):Apart lo hi a (w.setCell p u):=
 h.trans ⟨rfl,rfl,rfl,by simp [World.setCell],fun k hk ho=>Below.heap_setCell _ _ _ _ (by omega)⟩
theorem Apart.setNew {lo hi:Nat} {a w:World} (h:Apart lo hi a w) {p:Addr} (h1:a.heap.size≤p.block) (u:Value):Apart lo hi a (w.setCell p u):=
 ⟨h.os,h.tape,h.output,by simpa [World.setCell] using h.size,fun k hk ho=>(Below.heap_setCell _ _ _ _ (by omega)).trans (h.block k hk ho)⟩
theorem Apart.cell {lo hi:Nat} {w w':World} (h:Apart lo hi w w') {p:Addr} (hp:p.block<w.heap.size) (ho:p.block<lo∨hi≤p.block):w'.cell? p=w.cell? p:=World.cell?_of_block (w:=w) (h.block p.block hp ho)
theorem Apart.frozen {lo hi:Nat} {w w':World} (h:Apart lo hi w w') {p:Addr} (hp:p.block<w.heap.size) (ho:p.block<lo∨hi≤p.block):w'.frozen? p=w.frozen? p:=World.frozen?_of_block (w:=w) (h.block p.block hp ho)
def Chain {α:Type} (E:Nat→Nat→Nat→α→Prop):Nat→Nat→Nat→List α→Prop
 |_,lo,hi,[]=>lo=hi
 |i,lo,hi,t::ts=>∃ mid,E i lo mid t∧Chain E (i+1) mid hi ts
theorem Chain.snoc {α:Type} {E:Nat→Nat→Nat→α→Prop} {t:α} {hi:Nat}:∀ {ts:List α} {i lo mid:Nat},Chain E i lo mid ts→E (i+ts.length) mid hi t→Chain E i lo hi (ts++[t])
 |[],i,lo,mid,h,he=>by
  obtain rfl:lo=mid:=h
  exact ⟨hi,he,rfl⟩
 |a::ts,i,lo,mid,⟨m,h1,h2⟩,he=>⟨m,h1,Chain.snoc h2 (by rw [show i+1+ts.length=i+(a::ts).length by simp;omega];exact he)⟩
theorem Chain.imp {α:Type} {E F:Nat→Nat→Nat→α→Prop} (hE:∀ i lo hi t,E i lo hi t→lo≤hi):∀ {ts:List α} {i lo hi:Nat},Chain E i lo hi ts→(∀ j l h t,lo≤l→h≤hi→E j l h t→F j l h t)→Chain F i lo hi ts∧lo≤hi
 |[],i,lo,hi,h,_=>⟨h,Nat.le_of_eq h⟩
 |a::ts,i,lo,hi,⟨m,h1,h2⟩,hf=>by
  have hlm:=hE _ _ _ _ h1
  obtain ⟨h3,h4⟩:=Chain.imp hE h2 fun j l h t hl hh=>hf j l h t (by omega) hh
  exact ⟨⟨m,hf _ _ _ _ (Nat.le_refl _) h4 h1,h3⟩,by omega⟩
theorem Chain.at_ {α:Type} {E:Nat→Nat→Nat→α→Prop} (hE:∀ i lo hi t,E i lo hi t→lo≤hi):∀ {ts:List α} {i lo hi:Nat},Chain E i lo hi ts→∀ {k:Nat} {t:α},ts[k]? =some t→∃ l h,lo≤l∧h≤hi∧E (i+k) l h t
 |[],i,lo,hi,h,k,t,hk=>by simp at hk
 |a::ts,i,lo,hi,⟨m,h1,h2⟩,0,t,hk=>by
  simp at hk
  subst hk
  exact ⟨lo,m,Nat.le_refl _,(Chain.imp hE h2 fun _ _ _ _ _ _ h=>h).2,h1⟩
 |a::ts,i,lo,hi,⟨m,h1,h2⟩,k+1,t,hk=>by
  obtain ⟨l,h,h3,h4,h5⟩:=Chain.at_ hE h2 (k:=k) (t:=t) (by simpa using hk)
  have:=hE _ _ _ _ h1
  exact ⟨l,h,by omega,h4,by rw [show i+(k+1)=i+1+k by omega];exact h5⟩
def markT (i:Nat):VT:= .mk (-7) i ⟨#[]⟩ 0 []
def LentAt (w:World):Nat→Nat→Nat→Value→List VT→Prop
 |0,_,_,_,_=>False
 |n+1,lo,hi,v,ts=>∃ b m,v= .slice (some ⟨b,0,none⟩) ts.length (ts.length+3)∧lo≤b∧b<m∧ts.length≤100000∧
   (∀ j,w.frozen? ⟨b,j,none⟩=false)∧(∀ k,k<3→At5 w b ((ts.length+k)*5) (markT (ts.length+k)) (.slice none 0 0))∧
   Chain (fun i l h t=>l≤h∧t.Fine∧∃ lv,At5 w b (i*5) t lv∧LentAt w n l h lv t.list) 0 m hi ts
theorem LentAt.le {w:World}:∀ {n lo hi:Nat} {v:Value} {ts:List VT},LentAt w n lo hi v ts→lo<hi
 |0,_,_,_,_,h=>h.elim
 |n+1,lo,hi,v,ts,⟨b,m,_,h1,h2,_,_,_,hc⟩=>by
  have:=(hc.imp (fun i l h t h=>h.1) fun _ _ _ _ _ _ h=>h).2
  omega
theorem At5.apart {lo hi:Nat} {w w':World} {b o:Nat} {t:VT} {lv:Value} (h:At5 w b o t lv) (ha:Apart lo hi w w') (hb:b<w.heap.size) (ho:b<lo∨hi≤b):At5 w' b o t lv:=
 ⟨(ha.cell (p:=⟨b,_,none⟩) hb ho).trans h.kind,(ha.cell (p:=⟨b,_,none⟩) hb ho).trans h.num,(ha.cell (p:=⟨b,_,none⟩) hb ho).trans h.text,(ha.cell (p:=⟨b,_,none⟩) hb ho).trans h.list,(ha.cell (p:=⟨b,_,none⟩) hb ho).trans h.elem⟩
theorem LentAt.apart {x y:Nat} {w w':World} (ha:Apart x y w w'):∀ {n lo hi:Nat} {v:Value} {ts:List VT},LentAt w n lo hi v ts→hi≤w.heap.size→hi≤x∨y≤lo→LentAt w' n lo hi v ts
 |0,_,_,_,_,h,_,_=>h.elim
 |n+1,lo,hi,v,ts,⟨b,m,hv,h1,h2,h3,h4,h5,hc⟩,hs,ho=>by
  have hm:=(hc.imp (fun i l h t h=>h.1) fun _ _ _ _ _ _ h=>h).2
  have hb:b<w.heap.size:=by omega
  have hbo:b<x∨y≤b:=by omega
  refine ⟨b,m,hv,h1,h2,h3,fun j=>(ha.frozen (p:=⟨b,j,none⟩) hb hbo).trans (h4 j),fun k hk=>(h5 k hk).apart ha hb hbo,(hc.imp (fun i l h t h=>h.1) ?_).1⟩
  rintro i l h t hl hh ⟨e1,e2,lv,e3,e4⟩
  exact ⟨e1,e2,lv,e3.apart ha hb hbo,LentAt.apart ha e4 (by omega) (by omega)⟩
theorem LentAt.below {w w':World} {n lo hi:Nat} {v:Value} {ts:List VT} (h:LentAt w n lo hi v ts) (hs:hi≤w.heap.size) (hb:Below w.heap.size w w'):LentAt w' n lo hi v ts:=
 h.apart (x:=hi) (y:=hi) (Apart.of_below hb (Nat.le_refl _)) hs (.inl (Nat.le_refl _))
theorem LentAt.lat {w:World} {B:Nat}:∀ {n lo hi:Nat} {v:Value} {ts:List VT},LentAt w n lo hi v ts→hi≤B→LAt B w n v ts
 |0,_,_,_,_,h,_=>h.elim
 |n+1,lo,hi,v,ts,⟨b,m,hv,h1,h2,h3,h4,h5,hc⟩,hB=>by
  have hm:=(hc.imp (fun i l h t h=>h.1) fun _ _ _ _ _ _ h=>h).2
  refine .inr ⟨b,0,ts.length+3,hv,by omega,Nat.le_trans h3 (by decide),fun i t ht=>?_⟩
  obtain ⟨l,h,_,hh,_,e2,lv,e3,e4⟩:=hc.at_ (fun i l h t h=>h.1) ht
  rw [Nat.zero_add] at e3 ⊢
  exact ⟨e2,lv,e3,LentAt.lat e4 (by omega)⟩
def LentV (w:World) (n lo hi:Nat) (v:Value) (t:VT):Prop:=t.Fine∧∃ lv,v=t.agg lv∧LentAt w n lo hi lv t.list
theorem LentV.vat {w:World} {B n lo hi:Nat} {v:Value} {t:VT} (h:LentV w n lo hi v t) (hB:hi≤B):VAt B w n v t:=
 let ⟨hf,lv,h1,h2⟩:=h;⟨hf,lv,h1,h2.lat hB⟩
theorem LentV.below {w w':World} {n lo hi:Nat} {v:Value} {t:VT} (h:LentV w n lo hi v t) (hs:hi≤w.heap.size) (hb:Below w.heap.size w w'):LentV w' n lo hi v t:=
 let ⟨hf,lv,h1,h2⟩:=h;⟨hf,lv,h1,h2.below hs hb⟩
theorem LentV.apart {x y:Nat} {w w':World} {n lo hi:Nat} {v:Value} {t:VT} (h:LentV w n lo hi v t) (ha:Apart x y w w') (hs:hi≤w.heap.size) (ho:hi≤x∨y≤lo):LentV w' n lo hi v t:=
 let ⟨hf,lv,h1,h2⟩:=h;⟨hf,lv,h1,h2.apart ha hs ho⟩
mutual
def eqT:VT→VT→Bool
 | .mk k m s e l,.mk k' m' s' e' l'=>(k==k')&&((m==m')&&((s.toList==s'.toList)&&((e==e')&&eqTs l l')))
def eqTs:List VT→List VT→Bool
 |[],[]=>true
 |a::l,b::r=>eqT a b&&eqTs l r
 |_,_=>false
end
theorem eqT_mk (a b:VT):eqT a b=((a.kind==b.kind)&&((a.num==b.num)&&((a.text.toList==b.text.toList)&&((a.elem==b.elem)&&eqTs a.list b.list)))):=by
 cases a;cases b;simp [eqT,VT.kind,VT.num,VT.text,VT.elem,VT.list]
theorem eqTs_len:∀ {l r:List VT},l.length≠r.length→eqTs l r=false
 |[],[],h=>absurd rfl h
 |[],_::_,_=>by simp [eqTs]
 |_::_,[],_=>by simp [eqTs]
 |a::l,b::r,h=>by
  have:=eqTs_len (l:=l) (r:=r) (by simpa using h)
  simp [eqTs,this]
theorem eqTs_step {l r:List VT} {k:Nat} {a b:VT} (ha:l[k]? =some a) (hb:r[k]? =some b):eqTs (l.drop k) (r.drop k)=(eqT a b&&eqTs (l.drop (k+1)) (r.drop (k+1))):=by
 have h1:l.drop k=a::l.drop (k+1):=by
  rw [List.drop_eq_getElem_cons (List.getElem?_eq_some_iff.1 ha).1];congr 1;exact (List.getElem?_eq_some_iff.1 ha).2
 have h2:r.drop k=b::r.drop (k+1):=by
  rw [List.drop_eq_getElem_cons (List.getElem?_eq_some_iff.1 hb).1];congr 1;exact (List.getElem?_eq_some_iff.1 hb).2
 rw [h1,h2,eqTs]
theorem eqTs_end {l r:List VT} (h:l.length=r.length):eqTs (l.drop l.length) (r.drop l.length)=true:=by
 rw [List.drop_length,h,List.drop_length,eqTs]
theorem toList_inj {s s':ByteArray} (h:s.toList=s'.toList):s=s':=by
 rw [Lib.toList_data,Lib.toList_data] at h
 cases s;cases s'
 congr 1
 exact Array.toList_inj.1 h
def headT (a b:VT):Prop:=a.kind=b.kind∧a.num=b.num∧a.text=b.text∧a.elem=b.elem∧a.list.length=b.list.length
theorem eqT_not {a b:VT} (h:¬headT a b):eqT a b=false:=by
 rw [eqT_mk]
 by_cases h5:a.list.length=b.list.length
 ·by_cases h1:a.kind=b.kind
  ·by_cases h2:a.num=b.num
   ·by_cases h3:a.text=b.text
    ·by_cases h4:a.elem=b.elem
     ·exact absurd ⟨h1,h2,h3,h4,h5⟩ h
     ·simp [h4]
    ·have:¬a.text.toList=b.text.toList:=fun hh=>h3 (toList_inj hh)
     simp [this]
   ·simp [h2]
  ·simp [h1]
 ·simp [eqTs_len h5]
theorem eqT_head {a b:VT} (h:headT a b):eqT a b=eqTs a.list b.list:=by
 obtain ⟨h1,h2,h3,h4,_⟩:=h
 rw [eqT_mk]
 simp [h1,h2,h3,h4]
inductive ST where
 |mk (kind section_ offset:Int) (cond text:ByteArray) (info:VT) (failed elsewhere:Bool) (ann:VT) (txn:ByteArray) (inner:List ST)
def ST.kind:ST→Int| .mk k _ _ _ _ _ _ _ _ _ _=>k
def ST.section_:ST→Int| .mk _ x _ _ _ _ _ _ _ _ _=>x
def ST.offset:ST→Int| .mk _ _ x _ _ _ _ _ _ _ _=>x
def ST.cond:ST→ByteArray| .mk _ _ _ x _ _ _ _ _ _ _=>x
def ST.text:ST→ByteArray| .mk _ _ _ _ x _ _ _ _ _ _=>x
def ST.info:ST→VT| .mk _ _ _ _ _ x _ _ _ _ _=>x
def ST.failed:ST→Bool| .mk _ _ _ _ _ _ x _ _ _ _=>x
def ST.elsewhere:ST→Bool| .mk _ _ _ _ _ _ _ x _ _ _=>x
def ST.ann:ST→VT| .mk _ _ _ _ _ _ _ _ x _ _=>x
def ST.txn:ST→ByteArray| .mk _ _ _ _ _ _ _ _ _ x _=>x
def ST.inner:ST→List ST| .mk _ _ _ _ _ _ _ _ _ _ x=>x
theorem ST.eta (s:ST):ST.mk s.kind s.section_ s.offset s.cond s.text s.info s.failed s.elsewhere s.ann s.txn s.inner=s:=by cases s;rfl
structure ST.Fine (s:ST):Prop where
 k0: -9223372036854775808≤s.kind
 k1:s.kind≤9223372036854775807
 s0: -9223372036854775808≤s.section_
 s1:s.section_≤9223372036854775807
 o0: -9223372036854775808≤s.offset
 o1:s.offset≤9223372036854775807
 c:s.cond.size≤maxLen
 t:s.text.size≤maxLen
 x:s.txn.size≤maxLen
 i:s.info.Fine
 a:s.ann.Fine
def ST.cells (s:ST) (il al lv:Value):List Value:=
 [.int .i64 s.kind,.int .i64 s.section_,.int .i64 s.offset,.string s.cond,.string s.text,.int .i64 s.info.kind,.int .u64 s.info.num,.string s.info.text,il,.int .i64 s.info.elem,
  .bool s.failed,.bool s.elsewhere,.int .i64 s.ann.kind,.int .u64 s.ann.num,.string s.ann.text,al,.int .i64 s.ann.elem,.string s.txn,lv]
abbrev ST.agg (s:ST) (il al lv:Value):Value:= .agg #[.int .i64 s.kind,.int .i64 s.section_,.int .i64 s.offset,.string s.cond,.string s.text,.int .i64 s.info.kind,.int .u64 s.info.num,.string s.info.text,il,.int .i64 s.info.elem,
 .bool s.failed,.bool s.elsewhere,.int .i64 s.ann.kind,.int .u64 s.ann.num,.string s.ann.text,al,.int .i64 s.ann.elem,.string s.txn,lv]
def Cells (w:World) (b o:Nat) (cs:List Value):Prop:=∀ j u,cs[j]? =some u→w.cell? ⟨b,o+j,none⟩=some u
theorem Cells.below {B:Nat} {w w':World} {b o:Nat} {cs:List Value} (h:Cells w b o cs) (hb:Below B w w') (hlt:b<B):Cells w' b o cs:=fun j u hu=>(hb.cell (p:=⟨b,_,none⟩) hlt).trans (h j u hu)
theorem Cells.apart {lo hi:Nat} {w w':World} {b o:Nat} {cs:List Value} (h:Cells w b o cs) (ha:Apart lo hi w w') (hb:b<w.heap.size) (ho:b<lo∨hi≤b):Cells w' b o cs:=fun j u hu=>(ha.cell (p:=⟨b,_,none⟩) hb ho).trans (h j u hu)
def SAt (B N:Nat) (w:World):Nat→Value→List ST→Prop
 |0,_,_=>False
 |n+1,v,ss=>(ss=[]∧∃ p c,v= .slice p 0 c)∨
   ∃ b off c,v= .slice (some ⟨b,off,none⟩) ss.length c∧b<B∧ss.length≤maxLen∧∀ i s,ss[i]? =some s→s.Fine∧∃ il al lv,Cells w b (off+i*19) (s.cells il al lv)∧LAt B w N il s.info.list∧LAt B w N al s.ann.list∧SAt B N w n lv s.inner
theorem SAt.below {B N:Nat} {w w':World} (hb:Below B w w'):∀ {n:Nat} {v:Value} {ss:List ST},SAt B N w n v ss→SAt B N w' n v ss
 |0,_,_,h=>h
 |n+1,v,ss,h=>by
  rcases h with h|⟨b,off,c,h1,h2,h3,h4⟩
  ·exact .inl h
  ·exact .inr ⟨b,off,c,h1,h2,h3,fun i t ht=>let ⟨hf,il,al,lv,hc,hi,ha,hl⟩:=h4 i t ht;⟨hf,il,al,lv,hc.below hb h2,hi.below hb,ha.below hb,SAt.below hb hl⟩⟩
theorem SAt.slice {B N:Nat} {w:World} {n:Nat} {v:Value} {ss:List ST} (h:SAt B N w n v ss):∃ p c,v= .slice p ss.length c:=by
 cases n with
 |zero=>exact h.elim
 |succ n=>
  rcases h with ⟨rfl,p,c,rfl⟩|⟨b,off,c,rfl,_⟩
  ·exact ⟨p,c,rfl⟩
  ·exact ⟨_,c,rfl⟩
theorem SAt.len {B N:Nat} {w:World} {n:Nat} {v:Value} {ss:List ST} (h:SAt B N w n v ss):ss.length≤maxLen:=by
 cases n with
 |zero=>exact h.elim
 |succ n=>
  rcases h with ⟨rfl,_⟩|⟨b,off,c,_,_,h,_⟩
  ·exact Nat.zero_le _
  ·exact h
theorem SAt.mono {B N M:Nat} {w:World} (hN:N≤M):∀ {n m:Nat} {v:Value} {ss:List ST},n≤m→SAt B N w n v ss→SAt B M w m v ss
 |0,_,_,_,_,h=>h.elim
 |n+1,0,_,_,hn,_=>by omega
 |n+1,m+1,v,ss,hn,h=>by
  rcases h with h|⟨b,off,c,h1,h2,h3,h4⟩
  ·exact .inl h
  ·exact .inr ⟨b,off,c,h1,h2,h3,fun i t ht=>let ⟨hf,il,al,lv,hc,hi,ha,hl⟩:=h4 i t ht;⟨hf,il,al,lv,hc,hi.mono hN,ha.mono hN,SAt.mono hN (by omega) hl⟩⟩
def SVAt (B N:Nat) (w:World) (n:Nat) (v:Value) (s:ST):Prop:=s.Fine∧∃ il al lv,v=s.agg il al lv∧LAt B w N il s.info.list∧LAt B w N al s.ann.list∧SAt B N w n lv s.inner
theorem SVAt.below {B N:Nat} {w w':World} {n:Nat} {v:Value} {s:ST} (h:SVAt B N w n v s) (hb:Below B w w'):SVAt B N w' n v s:=
 let ⟨hf,il,al,lv,h1,h2,h3,h4⟩:=h;⟨hf,il,al,lv,h1,h2.below hb,h3.below hb,h4.below hb⟩
def ST.gr (s:ST):Bool:=decide (100000<wts [s.info,s.ann] 0)
mutual
def swt:ST→Nat→Nat
 | .mk _ _ _ _ _ i _ _ a _ l,n=>swts l (n+1+if decide (100000<wts [i,a] 0) then 20000 else 0)
def swts:List ST→Nat→Nat
 |[],n=>n
 |s::ss,n=>if n≤10000 then swts ss (swt s n) else n
end
theorem swt_eq (s:ST) (n:Nat):swt s n=swts s.inner (n+1+if s.gr then 20000 else 0):=by cases s;rw [swt];rfl
theorem swts_nil (n:Nat):swts [] n=n:=by simp [swts]
theorem swts_big (ss:List ST) {n:Nat} (h:10000<n):swts ss n=n:=by
 cases ss with
 |nil=>simp [swts]
 |cons t ts=>rw [swts,if_neg (by omega)]
theorem drop_cons_at {α:Type} {l:List α} {k:Nat} {a:α} (hk:l[k]? =some a):l.drop k=a::l.drop (k+1):=by
 rw [List.drop_eq_getElem_cons (List.getElem?_eq_some_iff.1 hk).1]
 congr 1
 exact (List.getElem?_eq_some_iff.1 hk).2
theorem swts_step {ss:List ST} {k:Nat} {s:ST} (hk:ss[k]? =some s) {n:Nat} (h:n≤10000):swts (ss.drop k) n=swts (ss.drop (k+1)) (swt s n):=by
 rw [drop_cons_at hk,swts,if_pos h]
theorem swts_end (ss:List ST) (n:Nat):swts (ss.drop ss.length) n=n:=by rw [List.drop_length,swts_nil]
mutual
theorem swt_gt:∀ (t:ST) (n:Nat),n<swt t n
 | .mk _ _ _ _ _ _ _ _ _ _ l,n=>by rw [swt];exact Nat.lt_of_lt_of_le (by omega) (swts_ge l _)
theorem swts_ge:∀ (ts:List ST) (n:Nat),n≤swts ts n
 |[],n=>by rw [swts];exact Nat.le_refl _
 |t::ts,n=>by
  rw [swts]
  split
  ·exact Nat.le_trans (Nat.le_of_lt (swt_gt t n)) (swts_ge ts _)
  ·exact Nat.le_refl _
end
def Ssm (ss:List ST):Prop:=∃ n,swts ss n≤10000
theorem swts_len:∀ (ts:List ST) (n:Nat),swts ts n≤10000→n+ts.length≤10000
 |[],n,h=>by rw [swts] at h;simpa using h
 |t::ts,n,h=>by
  rw [swts] at h
  split at h
  ·have:=swts_len ts _ h
   have:=swt_gt t n
   simp only [List.length_cons]
   omega
  ·omega
theorem Ssm.len {ts:List ST} (h:Ssm ts):ts.length≤10000:=by
 obtain ⟨n,h⟩:=h
 have:=swts_len ts n h
 omega
theorem small_of {s:ST} {n:Nat} (h:swt s n≤10000):Sms s.info.list∧Sms s.ann.list∧Ssm s.inner:=by
 rw [swt_eq] at h
 have hg:s.gr=false:=by
  cases hg:s.gr with
  |false=>rfl
  |true=>
   rw [hg] at h
   have:=swts_ge s.inner (n+1+if true=true then 20000 else 0)
   simp at this h
   omega
 have hw:Sms [s.info,s.ann]:=⟨0,by simp [ST.gr] at hg;omega⟩
 exact ⟨hw.child (k:=0) rfl,hw.child (k:=1) rfl,⟨_,h⟩⟩
theorem Ssm.child:∀ {ss:List ST} {k:Nat} {s:ST},Ssm ss→ss[k]? =some s→Sms s.info.list∧Sms s.ann.list∧Ssm s.inner
 |[],k,t,_,h=>by simp at h
 |a::ts,0,t,⟨n,h⟩,hk=>by
  simp at hk
  subst hk
  rw [swts] at h
  split at h
  ·exact small_of (Nat.le_trans (swts_ge ts (swt a n)) h)
  ·omega
 |a::ts,k+1,t,⟨n,h⟩,hk=>by
  simp at hk
  rw [swts] at h
  split at h
  ·exact Ssm.child ⟨_,h⟩ hk
  ·omega
mutual
def eqS:ST→ST→Bool
 | .mk k x o c t i f e a tx l,.mk k' x' o' c' t' i' f' e' a' tx' l'=>(k==k')&&(x==x')&&(o==o')&&((c.toList==c'.toList)&&(t.toList==t'.toList)&&eqT i i')&&(f==f')&&(e==e')&&eqT a a'&&(tx.toList==tx'.toList)&&eqSs l l'
def eqSs:List ST→List ST→Bool
 |[],[]=>true
 |a::l,b::r=>eqS a b&&eqSs l r
 |_,_=>false
end
theorem eqS_mk (a b:ST):eqS a b=((a.kind==b.kind)&&(a.section_==b.section_)&&(a.offset==b.offset)&&((a.cond.toList==b.cond.toList)&&(a.text.toList==b.text.toList)&&eqT a.info b.info)&&(a.failed==b.failed)&&(a.elsewhere==b.elsewhere)&&eqT a.ann b.ann&&(a.txn.toList==b.txn.toList)&&eqSs a.inner b.inner):=by
 cases a;cases b;simp [eqS,ST.kind,ST.section_,ST.offset,ST.cond,ST.text,ST.info,ST.failed,ST.elsewhere,ST.ann,ST.txn,ST.inner]
theorem eqSs_len:∀ {l r:List ST},l.length≠r.length→eqSs l r=false
 |[],[],h=>absurd rfl h
 |[],_::_,_=>by simp [eqSs]
 |_::_,[],_=>by simp [eqSs]
 |a::l,b::r,h=>by
  have:=eqSs_len (l:=l) (r:=r) (by simpa using h)
  simp [eqSs,this]
theorem eqSs_step {l r:List ST} {k:Nat} {a b:ST} (ha:l[k]? =some a) (hb:r[k]? =some b):eqSs (l.drop k) (r.drop k)=(eqS a b&&eqSs (l.drop (k+1)) (r.drop (k+1))):=by
 rw [drop_cons_at ha,drop_cons_at hb,eqSs]
theorem eqSs_end {l r:List ST} (h:l.length=r.length):eqSs (l.drop l.length) (r.drop l.length)=true:=by
 rw [List.drop_length,h,List.drop_length,eqSs]
mutual
theorem eqT_refl:∀ t:VT,eqT t t=true
 | .mk k m s e l=>by rw [eqT];simp [eqTs_refl l]
theorem eqTs_refl:∀ l:List VT,eqTs l l=true
 |[]=>by rw [eqTs]
 |t::l=>by rw [eqTs,eqT_refl t,eqTs_refl l];rfl
end
mutual
theorem eqS_refl:∀ t:ST,eqS t t=true
 | .mk k x o c t i f e a tx l=>by rw [eqS];simp [eqT_refl,eqSs_refl l]
theorem eqSs_refl:∀ l:List ST,eqSs l l=true
 |[]=>by rw [eqSs]
 |t::l=>by rw [eqSs,eqS_refl t,eqSs_refl l];rfl
end
mutual
theorem eqT_symm:∀ a b:VT,eqT a b=eqT b a
 | .mk k m s e l,.mk k' m' s' e' l'=>by rw [eqT,eqT,eqTs_symm l l',Bool.beq_comm (a:=k),Bool.beq_comm (a:=m),Bool.beq_comm (a:=s.toList),Bool.beq_comm (a:=e)]
theorem eqTs_symm:∀ l r:List VT,eqTs l r=eqTs r l
 |[],[]=>rfl
 |[],_::_=>by simp [eqTs]
 |_::_,[]=>by simp [eqTs]
 |a::l,b::r=>by rw [eqTs,eqTs,eqT_symm a b,eqTs_symm l r]
end
mutual
theorem eqS_symm:∀ a b:ST,eqS a b=eqS b a
 | .mk k x o c t i f e a tx l,.mk k' x' o' c' t' i' f' e' a' tx' l'=>by
   rw [eqS,eqS,eqSs_symm l l',eqT_symm i i',eqT_symm a a',Bool.beq_comm (a:=k),Bool.beq_comm (a:=x),Bool.beq_comm (a:=o),Bool.beq_comm (a:=c.toList),Bool.beq_comm (a:=t.toList),Bool.beq_comm (a:=f),Bool.beq_comm (a:=e),Bool.beq_comm (a:=tx.toList)]
theorem eqSs_symm:∀ l r:List ST,eqSs l r=eqSs r l
 |[],[]=>rfl
 |[],_::_=>by simp [eqSs]
 |_::_,[]=>by simp [eqSs]
 |a::l,b::r=>by rw [eqSs,eqSs,eqS_symm a b,eqSs_symm l r]
end
def SLent (w:World) (N:Nat):Nat→Nat→Nat→Value→List ST→Prop
 |0,_,_,_,_=>False
 |n+1,lo,hi,v,ss=>∃ b m,v= .slice (some ⟨b,0,none⟩) ss.length (ss.length+2)∧lo≤b∧b<m∧ss.length≤10000∧
   (∀ j,w.frozen? ⟨b,j,none⟩=false)∧(∀ k,k<2→∃ cs:List Value,cs.length=19∧cs[0]? =some (.int .i64 (-7-(ss.length+k:Nat)))∧Cells w b ((ss.length+k)*19) cs)∧
   Chain (fun i l h s=>l≤h∧s.Fine∧∃ il al lv m1 m2,Cells w b (i*19) (s.cells il al lv)∧LentAt w N l m1 il s.info.list∧LentAt w N m1 m2 al s.ann.list∧SLent w N n m2 h lv s.inner) 0 m hi ss
theorem SLent.le {w:World} {N:Nat}:∀ {n lo hi:Nat} {v:Value} {ss:List ST},SLent w N n lo hi v ss→lo<hi
 |0,_,_,_,_,h=>h.elim
 |n+1,lo,hi,v,ss,⟨b,m,_,h1,h2,_,_,_,hc⟩=>by
  have:=(hc.imp (fun i l h t h=>h.1) fun _ _ _ _ _ _ h=>h).2
  omega
theorem SLent.apart {x y:Nat} {w w':World} {N:Nat} (ha:Apart x y w w'):∀ {n lo hi:Nat} {v:Value} {ss:List ST},SLent w N n lo hi v ss→hi≤w.heap.size→hi≤x∨y≤lo→SLent w' N n lo hi v ss
 |0,_,_,_,_,h,_,_=>h.elim
 |n+1,lo,hi,v,ss,⟨b,m,hv,h1,h2,h3,h4,h5,hc⟩,hs,ho=>by
  have hm:=(hc.imp (fun i l h t h=>h.1) fun _ _ _ _ _ _ h=>h).2
  have hb:b<w.heap.size:=by omega
  have hbo:b<x∨y≤b:=by omega
  refine ⟨b,m,hv,h1,h2,h3,fun j=>(ha.frozen (p:=⟨b,j,none⟩) hb hbo).trans (h4 j),fun k hk=>?_,(hc.imp (fun i l h t h=>h.1) ?_).1⟩
  ·obtain ⟨cs,c1,c2,c3⟩:=h5 k hk
   exact ⟨cs,c1,c2,c3.apart ha hb hbo⟩
  ·rintro i l h t hl hh ⟨e1,e2,il,al,lv,m1,m2,e3,e4,e5,e6⟩
   have l1:=e4.le
   have l2:=e5.le
   have l3:=e6.le
   exact ⟨e1,e2,il,al,lv,m1,m2,e3.apart ha hb hbo,e4.apart ha (by omega) (by omega),e5.apart ha (by omega) (by omega),SLent.apart ha e6 (by omega) (by omega)⟩
theorem SLent.below {w w':World} {N n lo hi:Nat} {v:Value} {ss:List ST} (h:SLent w N n lo hi v ss) (hs:hi≤w.heap.size) (hb:Below w.heap.size w w'):SLent w' N n lo hi v ss:=
 h.apart (x:=hi) (y:=hi) (Apart.of_below hb (Nat.le_refl _)) hs (.inl (Nat.le_refl _))
theorem SLent.sat {w:World} {B N:Nat}:∀ {n lo hi:Nat} {v:Value} {ss:List ST},SLent w N n lo hi v ss→hi≤B→SAt B N w n v ss
 |0,_,_,_,_,h,_=>h.elim
 |n+1,lo,hi,v,ss,⟨b,m,hv,h1,h2,h3,h4,h5,hc⟩,hB=>by
  have hm:=(hc.imp (fun i l h t h=>h.1) fun _ _ _ _ _ _ h=>h).2
  refine .inr ⟨b,0,ss.length+2,hv,by omega,Nat.le_trans h3 (by decide),fun i t ht=>?_⟩
  obtain ⟨l,h,_,hh,_,e2,il,al,lv,m1,m2,e3,e4,e5,e6⟩:=hc.at_ (fun i l h t h=>h.1) ht
  rw [Nat.zero_add] at e3 ⊢
  have l1:=e4.le
  have l2:=e5.le
  have l3:=e6.le
  exact ⟨e2,il,al,lv,e3,e4.lat (by omega),e5.lat (by omega),SLent.sat e6 (by omega)⟩
def SLentV (w:World) (N n lo hi:Nat) (v:Value) (s:ST):Prop:=s.Fine∧∃ il al lv m1 m2,v=s.agg il al lv∧LentAt w N lo m1 il s.info.list∧LentAt w N m1 m2 al s.ann.list∧SLent w N n m2 hi lv s.inner
theorem SLentV.le {w:World} {N n lo hi:Nat} {v:Value} {s:ST} (h:SLentV w N n lo hi v s):lo<hi:=by
 obtain ⟨_,_,_,_,_,_,_,h1,h2,h3⟩:=h
 have:=h1.le
 have:=h2.le
 have:=h3.le
 omega
theorem SLentV.apart {x y:Nat} {w w':World} {N n lo hi:Nat} {v:Value} {s:ST} (h:SLentV w N n lo hi v s) (ha:Apart x y w w') (hs:hi≤w.heap.size) (ho:hi≤x∨y≤lo):SLentV w' N n lo hi v s:=by
 obtain ⟨hf,il,al,lv,m1,m2,hv,h1,h2,h3⟩:=h
 have:=h1.le
 have:=h2.le
 have:=h3.le
 exact ⟨hf,il,al,lv,m1,m2,hv,h1.apart ha (by omega) (by omega),h2.apart ha (by omega) (by omega),h3.apart ha (by omega) (by omega)⟩
theorem SLentV.below {w w':World} {N n lo hi:Nat} {v:Value} {s:ST} (h:SLentV w N n lo hi v s) (hs:hi≤w.heap.size) (hb:Below w.heap.size w w'):SLentV w' N n lo hi v s:=
 h.apart (x:=hi) (y:=hi) (Apart.of_below hb (Nat.le_refl _)) hs (.inl (Nat.le_refl _))
theorem SLentV.svat {w:World} {B N n lo hi:Nat} {v:Value} {s:ST} (h:SLentV w N n lo hi v s) (hB:hi≤B):SVAt B N w n v s:=by
 obtain ⟨hf,il,al,lv,m1,m2,hv,h1,h2,h3⟩:=h
 have:=h1.le
 have:=h2.le
 have:=h3.le
 exact ⟨hf,il,al,lv,hv,h1.lat (by omega),h2.lat (by omega),h3.sat hB⟩
def set5 (w:World) (b o:Nat) (v0 v1 v2 v3 v4:Value):World:=((((w.setCell ⟨b,o,none⟩ v0).setCell ⟨b,o+1,none⟩ v1).setCell ⟨b,o+2,none⟩ v2).setCell ⟨b,o+3,none⟩ v3).setCell ⟨b,o+4,none⟩ v4
theorem set5_size (w:World) (b o:Nat) (v0 v1 v2 v3 v4:Value):(set5 w b o v0 v1 v2 v3 v4).heap.size=w.heap.size:=by simp [set5,World.setCell]
theorem set1_other {w:World} {b o o':Nat} {u:Value} {p:Addr} (h:p.block≠b∨p.off<o∨o+5≤p.off) (h1:o≤o') (h2:o'<o+5):(w.setCell ⟨b,o',none⟩ u).cell? p=w.cell? p:=by
 refine World.cell?_setCell_other w ⟨b,o',none⟩ p u ?_
 first
  |(intro e;subst e;simp at h;omega)
  |(obtain ⟨pb,po,ps⟩:=p;simp at h ⊢;omega)
theorem set5_other {w:World} {b o:Nat} {v0 v1 v2 v3 v4:Value} {p:Addr} (h:p.block≠b∨p.off<o∨o+5≤p.off):(set5 w b o v0 v1 v2 v3 v4).cell? p=w.cell? p:=by
 unfold set5
 rw [set1_other h (by omega) (by omega),set1_other h (by omega) (by omega),set1_other h (by omega) (by omega),set1_other h (by omega) (by omega),set1_other h (by omega) (by omega)]
theorem set5_frozen {w:World} {b o:Nat} {v0 v1 v2 v3 v4:Value} (p:Addr):(set5 w b o v0 v1 v2 v3 v4).frozen? p=w.frozen? p:=by
 unfold set5
 rw [World.frozen?_setCell,World.frozen?_setCell,World.frozen?_setCell,World.frozen?_setCell,World.frozen?_setCell]
theorem set5_apart (w:World) (b o:Nat) (v0 v1 v2 v3 v4:Value):Apart b (b+1) w (set5 w b o v0 v1 v2 v3 v4):=
 (((((Apart.refl _ _ w).setCell (p:=⟨b,o,none⟩) (Nat.le_refl _) (Nat.lt_succ_self _) _).setCell (p:=⟨b,o+1,none⟩) (Nat.le_refl _) (Nat.lt_succ_self _) _).setCell (p:=⟨b,o+2,none⟩) (Nat.le_refl _) (Nat.lt_succ_self _) _).setCell (p:=⟨b,o+3,none⟩) (Nat.le_refl _) (Nat.lt_succ_self _) _).setCell (p:=⟨b,o+4,none⟩) (Nat.le_refl _) (Nat.lt_succ_self _) _
theorem set5_below {B:Nat} {a w:World} (h:Below B a w) {b o:Nat} {v0 v1 v2 v3 v4:Value} (hb:B≤b):Below B a (set5 w b o v0 v1 v2 v3 v4):=
 ((((h.setCell (p:=⟨b,o,none⟩) hb _).setCell (p:=⟨b,o+1,none⟩) hb _).setCell (p:=⟨b,o+2,none⟩) hb _).setCell (p:=⟨b,o+3,none⟩) hb _).setCell (p:=⟨b,o+4,none⟩) hb _
def Has (w:World) (b m:Nat):Prop:=∀ j,j<m→∃ v,w.cell? ⟨b,j,none⟩=some v
theorem Has.at5 {w:World} {b m o:Nat} (h:Has w b m) (ho:o+5≤m):∃ v0 v1 v2 v3 v4,w.cell? ⟨b,o,none⟩=some v0∧w.cell? ⟨b,o+1,none⟩=some v1∧w.cell? ⟨b,o+2,none⟩=some v2∧w.cell? ⟨b,o+3,none⟩=some v3∧w.cell? ⟨b,o+4,none⟩=some v4:=by
 obtain ⟨v0,h0⟩:=h o (by omega)
 obtain ⟨v1,h1⟩:=h (o+1) (by omega)
 obtain ⟨v2,h2⟩:=h (o+2) (by omega)
 obtain ⟨v3,h3⟩:=h (o+3) (by omega)
 obtain ⟨v4,h4⟩:=h (o+4) (by omega)
 exact ⟨v0,v1,v2,v3,v4,h0,h1,h2,h3,h4⟩
theorem set5_cells {w:World} {b m o:Nat} {v0 v1 v2 v3 v4:Value} (h:Has w b m) (ho:o+5≤m):
 (set5 w b o v0 v1 v2 v3 v4).cell? ⟨b,o,none⟩=some v0∧(set5 w b o v0 v1 v2 v3 v4).cell? ⟨b,o+1,none⟩=some v1∧(set5 w b o v0 v1 v2 v3 v4).cell? ⟨b,o+2,none⟩=some v2∧(set5 w b o v0 v1 v2 v3 v4).cell? ⟨b,o+3,none⟩=some v3∧(set5 w b o v0 v1 v2 v3 v4).cell? ⟨b,o+4,none⟩=some v4:=by
 obtain ⟨u0,u1,u2,u3,u4,h0,h1,h2,h3,h4⟩:=h.at5 ho
 unfold set5
 refine ⟨?_,?_,?_,?_,?_⟩
 ·rw [World.cell?_setCell_other _ _ _ _ (by simp),World.cell?_setCell_other _ _ _ _ (by simp),World.cell?_setCell_other _ _ _ _ (by simp),World.cell?_setCell_other _ _ _ _ (by simp),World.cell?_setCell_same _ _ _ h0]
 ·rw [World.cell?_setCell_other _ _ _ _ (by simp),World.cell?_setCell_other _ _ _ _ (by simp),World.cell?_setCell_other _ _ _ _ (by simp),World.cell?_setCell_same _ _ _ (by rw [World.cell?_setCell_other _ _ _ _ (by simp)];exact h1)]
 ·rw [World.cell?_setCell_other _ _ _ _ (by simp),World.cell?_setCell_other _ _ _ _ (by simp),World.cell?_setCell_same _ _ _ (by rw [World.cell?_setCell_other _ _ _ _ (by simp),World.cell?_setCell_other _ _ _ _ (by simp)];exact h2)]
 ·rw [World.cell?_setCell_other _ _ _ _ (by simp),World.cell?_setCell_same _ _ _ (by rw [World.cell?_setCell_other _ _ _ _ (by simp),World.cell?_setCell_other _ _ _ _ (by simp),World.cell?_setCell_other _ _ _ _ (by simp)];exact h3)]
 ·rw [World.cell?_setCell_same _ _ _ (by rw [World.cell?_setCell_other _ _ _ _ (by simp),World.cell?_setCell_other _ _ _ _ (by simp),World.cell?_setCell_other _ _ _ _ (by simp),World.cell?_setCell_other _ _ _ _ (by simp)];exact h4)]
theorem Has.set5 {w:World} {b m o:Nat} {v0 v1 v2 v3 v4:Value} (h:Has w b m) (ho:o+5≤m):Has (set5 w b o v0 v1 v2 v3 v4) b m:=fun j hj=>by
 obtain ⟨c0,c1,c2,c3,c4⟩:=set5_cells (v0:=v0) (v1:=v1) (v2:=v2) (v3:=v3) (v4:=v4) h ho
 by_cases hx:j<o∨o+5≤j
 ·rw [set5_other (p:=⟨b,j,none⟩) (.inr hx)]
  exact h j hj
 ·obtain rfl|rfl|rfl|rfl|rfl:j=o∨j=o+1∨j=o+2∨j=o+3∨j=o+4:=by omega
  ·exact ⟨_,c0⟩
  ·exact ⟨_,c1⟩
  ·exact ⟨_,c2⟩
  ·exact ⟨_,c3⟩
  ·exact ⟨_,c4⟩
theorem Has.below {w w':World} {b m B:Nat} (h:Has w b m) (hb:Below B w w') (hlt:b<B):Has w' b m:=fun j hj=>by
 obtain ⟨v,hv⟩:=h j hj
 exact ⟨v,(hb.cell (p:=⟨b,j,none⟩) hlt).trans hv⟩
theorem Has.apart {w w':World} {b m lo hi:Nat} (h:Has w b m) (ha:Apart lo hi w w') (hlt:b<w.heap.size) (ho:b<lo∨hi≤b):Has w' b m:=fun j hj=>by
 obtain ⟨v,hv⟩:=h j hj
 exact ⟨v,(ha.cell (p:=⟨b,j,none⟩) hlt ho).trans hv⟩
def Part (w:World) (b n:Nat) (i l h:Nat) (t:VT):Prop:=l≤h∧t.Fine∧∃ lv,At5 w b (i*5) t lv∧LentAt w n l h lv t.list
theorem Part.le {w:World} {b n i l h:Nat} {t:VT} (p:Part w b n i l h t):l≤h:=p.1
theorem Chain.imp' {α:Type} {E F:Nat→Nat→Nat→α→Prop} (hE:∀ i lo hi t,E i lo hi t→lo≤hi):∀ {ts:List α} {i lo hi:Nat},Chain E i lo hi ts→(∀ j l h t,i≤j→j<i+ts.length→lo≤l→h≤hi→E j l h t→F j l h t)→Chain F i lo hi ts∧lo≤hi
 |[],i,lo,hi,h,_=>⟨h,Nat.le_of_eq h⟩
 |a::ts,i,lo,hi,⟨m,h1,h2⟩,hf=>by
  have hlm:=hE _ _ _ _ h1
  obtain ⟨h3,h4⟩:=Chain.imp' hE h2 fun j l h t hj hj' hl hh=>hf j l h t (by omega) (by simp only [List.length_cons];omega) (by omega) hh
  exact ⟨⟨m,hf _ _ _ _ (Nat.le_refl _) (by simp) (Nat.le_refl _) h4 h1,h3⟩,by omega⟩
theorem parts_keep {w w':World} {b n i m hi x:Nat} {ts:List VT} (h:Chain (Part w b n) i m hi ts) (hc:∀ j,i*5≤j→j<(i+ts.length)*5→w'.cell? ⟨b,j,none⟩=w.cell? ⟨b,j,none⟩) (ha:Apart b x w w') (hhi:hi≤w.heap.size) (hx:x≤m):Chain (Part w' b n) i m hi ts:=
 (h.imp' (fun _ _ _ _ p=>p.1) (by
   rintro j l h t hj hj' hl hh ⟨e1,e2,lv,e3,e4⟩
   exact ⟨e1,e2,lv,⟨(hc _ (by omega) (by omega)).trans e3.kind,(hc _ (by omega) (by omega)).trans e3.num,(hc _ (by omega) (by omega)).trans e3.text,(hc _ (by omega) (by omega)).trans e3.list,(hc _ (by omega) (by omega)).trans e3.elem⟩,e4.apart ha (by omega) (by omega)⟩)).1
theorem take_snoc {α:Type} {l:List α} {i:Nat} {t:α} (h:l[i]? =some t):l.take (i+1)=l.take i++[t]:=by
 rw [List.take_add_one,h];rfl
theorem take_len {α:Type} {l:List α} {i:Nat} (h:i≤l.length):(l.take i).length=i:=by simp;omega
theorem heap5 {w:World} {b:Nat} {T:TypeId} {u0 u1 u2 u3 u4 v0 v1 v2 v3 v4:Value} (h:w.heap[b]? =some (.cells #[u0,u1,u2,u3,u4] T (0,0))):(set5 w b 0 v0 v1 v2 v3 v4).heap[b]? =some (.cells #[v0,v1,v2,v3,v4] T (0,0)):=
 heap_setCell_same _ b 4 _ T _ (heap_setCell_same _ b 3 _ T _ (heap_setCell_same _ b 2 _ T _ (heap_setCell_same _ b 1 _ T _ (heap_setCell_same _ b 0 _ T _ h))))
theorem lent_hi {w w':World} {n lo hi:Nat} {v:Value} {ts:List VT} (h:LentAt w n lo hi v ts) {x y:Nat} (ha:Apart x y w w') (hs:hi≤w.heap.size) (hy:y≤lo):LentAt w' n lo hi v ts:=h.apart ha hs (.inr hy)
theorem LentAt.lo {w:World} {n lo lo' hi:Nat} {v:Value} {ts:List VT} (h:LentAt w n lo hi v ts) (hlo:lo'≤lo):LentAt w n lo' hi v ts:=by
 cases n with
 |zero=>exact h.elim
 |succ n=>
  obtain ⟨b,m,h1,h2,h3⟩:=h
  exact ⟨b,m,h1,by omega,h3⟩
theorem LentAt.form {w:World} {n lo hi:Nat} {v:Value} {ts:List VT} (h:LentAt w n lo hi v ts):∃ b,v= .slice (some ⟨b,0,none⟩) ts.length (ts.length+3):=by
 cases n with
 |zero=>exact h.elim
 |succ n=>obtain ⟨b,m,h1,_⟩:=h;exact ⟨b,h1⟩
structure LRel (w wr:World) (N j:Nat) (l:List VT):Prop where
 below:Below w.heap.size w wr
 lt:w.heap.size<wr.heap.size
 has:Has wr w.heap.size ((l.length+3)*5)
 froz:∀ o,wr.frozen? ⟨w.heap.size,o,none⟩=false
 parts:Chain (Part wr w.heap.size N) 0 (w.heap.size+1) wr.heap.size (l.take j)
 marks:∀ k,l.length≤k→k<j→At5 wr w.heap.size (k*5) (markT k) (.slice none 0 0)
theorem LRel.mark {w wr:World} {N j:Nat} {l:List VT} (h:LRel w wr N j l) (hj:l.length≤j) (hj3:j<l.length+3):LRel w (set5 wr w.heap.size (j*5) (.int .i64 (-7)) (.int .u64 j) (.string ⟨#[]⟩) (.slice none 0 0) (.int .i64 0)) N (j+1) l:=by
 have hz:=set5_size wr w.heap.size (j*5) (.int .i64 (-7)) (.int .u64 j) (.string ⟨#[]⟩) (.slice none 0 0) (.int .i64 0)
 obtain ⟨c0,c1,c2,c3,c4⟩:=set5_cells (v0:= .int .i64 (-7)) (v1:= .int .u64 j) (v2:= .string ⟨#[]⟩) (v3:= .slice none 0 0) (v4:= .int .i64 0) h.has (o:=j*5) (by omega)
 refine ⟨set5_below h.below (Nat.le_refl _),by rw [hz];exact h.lt,h.has.set5 (by omega),fun o=>(set5_frozen _).trans (h.froz o),?_,fun k hk hk'=>?_⟩
 ·rw [List.take_of_length_le (by omega)]
  have hp:=h.parts
  rw [List.take_of_length_le (by omega)] at hp
  rw [hz]
  exact parts_keep hp (fun o ho ho'=>set5_other (.inr (.inl (by show o<j*5;omega)))) (set5_apart _ _ _ _ _ _ _ _) (Nat.le_refl _) (Nat.le_refl _)
 ·by_cases e:k=j
  ·subst e;exact ⟨c0,c1,c2,c3,c4⟩
  ·obtain ⟨a0,a1,a2,a3,a4⟩:=h.marks k hk (by omega)
   have x:∀ i,i<5→(set5 wr w.heap.size (j*5) (.int .i64 (-7)) (.int .u64 j) (.string ⟨#[]⟩) (.slice none 0 0) (.int .i64 0)).cell? ⟨w.heap.size,k*5+i,none⟩=wr.cell? ⟨w.heap.size,k*5+i,none⟩:=fun i hi=>set5_other (.inr (.inl (by show k*5+i<j*5;omega)))
   exact ⟨(x 0 (by omega)).trans a0,(x 1 (by omega)).trans a1,(x 2 (by omega)).trans a2,(x 3 (by omega)).trans a3,(x 4 (by omega)).trans a4⟩
theorem LRel.part {w wr w2:World} {N j:Nat} {l:List VT} {t:VT} {v':Value} (h:LRel w wr N j l) (ht:l[j]? =some t) (hf:t.Fine)
 (u0 u1 u2 u3 u4:Value) (hb:Below (set5 wr w.heap.size (j*5) u0 u1 u2 u3 u4).heap.size (set5 wr w.heap.size (j*5) u0 u1 u2 u3 u4) w2) (hl:LentAt w2 N (set5 wr w.heap.size (j*5) u0 u1 u2 u3 u4).heap.size w2.heap.size v' t.list):
 LRel w (set5 w2 w.heap.size (j*5) (.int .i64 t.kind) (.int .u64 t.num) (.string t.text) v' (.int .i64 t.elem)) N (j+1) l:=by
 have hj:j<l.length:=(List.getElem?_eq_some_iff.1 ht).1
 have hlt:=h.lt
 have hz1:=set5_size wr w.heap.size (j*5) u0 u1 u2 u3 u4
 have hz2:=set5_size w2 w.heap.size (j*5) (.int .i64 t.kind) (.int .u64 t.num) (.string t.text) v' (.int .i64 t.elem)
 have hs2:=hb.size
 rw [hz1] at hb hl hs2
 have has1:=h.has.set5 (o:=j*5) (v0:=u0) (v1:=u1) (v2:=u2) (v3:=u3) (v4:=u4) (by omega)
 have has2:Has w2 w.heap.size ((l.length+3)*5):=has1.below hb hlt
 obtain ⟨c0,c1,c2,c3,c4⟩:=set5_cells (v0:= .int .i64 t.kind) (v1:= .int .u64 t.num) (v2:= .string t.text) (v3:=v') (v4:= .int .i64 t.elem) has2 (o:=j*5) (by omega)
 have hle:=hl.le
 refine ⟨set5_below ((set5_below h.below (Nat.le_refl _)).trans (hb.mono (by omega))) (Nat.le_refl _),by rw [hz2];omega,has2.set5 (by omega),fun o=>(set5_frozen _).trans ((hb.frozen (p:=⟨_,o,none⟩) hlt).trans ((set5_frozen _).trans (h.froz o))),?_,fun k hk hk'=>by omega⟩
 rw [take_snoc ht,hz2]
 refine Chain.snoc (mid:=wr.heap.size) ?_ ?_
 ·have ha:Apart w.heap.size (w.heap.size+1) wr (set5 w2 w.heap.size (j*5) (.int .i64 t.kind) (.int .u64 t.num) (.string t.text) v' (.int .i64 t.elem)):=
   ((set5_apart wr w.heap.size (j*5) u0 u1 u2 u3 u4).trans (Apart.of_below hb (by rw [hz1];exact Nat.le_refl _))).trans (set5_apart _ _ _ _ _ _ _ _)
  refine parts_keep h.parts (fun o ho ho'=>?_) ha (Nat.le_refl _) (Nat.le_refl _)
  rw [take_len (by omega)] at ho'
  rw [set5_other (.inr (.inl (by show o<j*5;omega))),hb.cell (p:=⟨w.heap.size,o,none⟩) hlt,set5_other (.inr (.inl (by show o<j*5;omega)))]
 ·rw [take_len (by omega),Nat.zero_add]
  refine ⟨by omega,hf,v',⟨c0,c1,c2,c3,c4⟩,?_⟩
  exact hl.apart (set5_apart _ _ _ _ _ _ _ _) (Nat.le_refl _) (.inr (by omega))
theorem LRel.done {w wr:World} {N:Nat} {l:List VT} (h:LRel w wr N (l.length+3) l) (hl:l.length≤100000):LentAt wr (N+1) w.heap.size wr.heap.size (.slice (some ⟨w.heap.size,0,none⟩) l.length (l.length+3)) l:=by
 have hp:=h.parts
 rw [List.take_of_length_le (by omega)] at hp
 exact ⟨w.heap.size,w.heap.size+1,rfl,Nat.le_refl _,Nat.lt_succ_self _,hl,h.froz,fun k hk=>h.marks _ (by omega) (by omega),hp⟩
theorem LRel.start {w:World} {N:Nat} {l:List VT} {C:Array Value} {T:TypeId} (hC:C.size=(l.length+3)*5):LRel w (w.alloc (.cells C T)) N 0 l:=by
 refine ⟨(Below.refl _ _).alloc (Nat.le_refl _) _,by rw [show (w.alloc (.cells C T)).heap.size=w.heap.size+1 from Array.size_push ..];omega,fun j hj=>?_,fun o=>World.frozen?_alloc_new _ _ _ _,?_,fun k _ hk=>by omega⟩
 ·rw [World.cell?_alloc_new]
  exact ⟨_,Array.getElem?_eq_getElem (by omega)⟩
 ·exact (Array.size_push ..).symm
structure ARel (w wr:World) (N b lo hi j:Nat) (l:List VT):Prop where
 apart:Apart lo hi w wr
 has:Has wr b ((l.length+3)*5)
 froz:∀ o,wr.frozen? ⟨b,o,none⟩=false
 parts:∃ mid,b<mid∧Chain (Part wr b N) j mid hi (l.drop j)
 marks:∀ k,l.length≤k→k<l.length+3→j≤k→At5 wr b (k*5) (markT k) (.slice none 0 0)
theorem lentAt_open {w:World} {N lo hi:Nat} {v:Value} {l:List VT} (h:LentAt w (N+1) lo hi v l):∃ b,v= .slice (some ⟨b,0,none⟩) l.length (l.length+3)∧lo≤b∧b<hi∧l.length≤100000∧ARel w w N b lo hi 0 l:=by
 obtain ⟨b,m,hv,h1,h2,h3,h4,h5,hc⟩:=h
 have hm:=(hc.imp (fun i l h t h=>h.1) fun _ _ _ _ _ _ h=>h).2
 refine ⟨b,hv,h1,by omega,h3,Apart.refl _ _ _,fun j hj=>?_,h4,⟨m,h2,hc⟩,fun k hk hk' _=>by have:=h5 (k-l.length) (by omega);rwa [show l.length+(k-l.length)=k by omega] at this⟩
 by_cases hjl:j<l.length*5
 ·obtain ⟨x,y,_,_,_,_,lv,e,_⟩:=hc.at_ (fun i l h t h=>h.1) (k:=j/5) (List.getElem?_eq_getElem (by omega))
  rw [Nat.zero_add] at e
  obtain h|h|h|h|h:j=j/5*5∨j=j/5*5+1∨j=j/5*5+2∨j=j/5*5+3∨j=j/5*5+4:=by omega
  ·rw [h];exact ⟨_,e.kind⟩
  ·rw [h];exact ⟨_,e.num⟩
  ·rw [h];exact ⟨_,e.text⟩
  ·rw [h];exact ⟨_,e.list⟩
  ·rw [h];exact ⟨_,e.elem⟩
 ·have e:=h5 (j/5-l.length) (by omega)
  rw [show l.length+(j/5-l.length)=j/5 by omega] at e
  obtain h|h|h|h|h:j=j/5*5∨j=j/5*5+1∨j=j/5*5+2∨j=j/5*5+3∨j=j/5*5+4:=by omega
  ·rw [h];exact ⟨_,e.kind⟩
  ·rw [h];exact ⟨_,e.num⟩
  ·rw [h];exact ⟨_,e.text⟩
  ·rw [h];exact ⟨_,e.list⟩
  ·rw [h];exact ⟨_,e.elem⟩
theorem ARel.head {w wr:World} {N b lo hi j:Nat} {l:List VT} {t:VT} (h:ARel w wr N b lo hi j l) (ht:l[j]? =some t) (hlo:lo≤b) (hbs:hi≤w.heap.size):
 ∃ x y lv,b<x∧y≤hi∧t.Fine∧At5 wr b (j*5) t lv∧LentAt wr N x y lv t.list∧
   ∀ w2,Apart x y wr w2→∀ u0 u1 u2 u3 u4,ARel w (set5 w2 b (j*5) u0 u1 u2 u3 u4) N b lo hi (j+1) l:=by
 obtain ⟨mid,hm,hc⟩:=h.parts
 have hj:j<l.length:=(List.getElem?_eq_some_iff.1 ht).1
 rw [List.drop_eq_getElem_cons hj,show l[j]=t from (List.getElem?_eq_some_iff.1 ht).2] at hc
 obtain ⟨y,⟨h1,hf,lv,ha,hl⟩,hc2⟩:=hc
 have hy:=(hc2.imp (fun i l h t h=>h.1) fun _ _ _ _ _ _ h=>h).2
 have hs:=h.apart.size
 have hle:=hl.le
 have hb:b<wr.heap.size:=by omega
 refine ⟨mid,y,lv,hm,hy,hf,ha,hl,fun w2 ha2 u0 u1 u2 u3 u4=>?_⟩
 have hs2:=ha2.size
 have c2:∀ o,w2.cell? ⟨b,o,none⟩=wr.cell? ⟨b,o,none⟩:=fun o=>ha2.cell (p:=⟨b,o,none⟩) hb (.inl hm)
 have has2:Has w2 b ((l.length+3)*5):=h.has.apart ha2 hb (.inl hm)
 refine ⟨(h.apart.trans (ha2.wide (by omega) hy)).trans ((set5_apart _ _ _ _ _ _ _ _).wide hlo (by omega)),has2.set5 (by omega),fun o=>(set5_frozen _).trans ((ha2.frozen (p:=⟨b,o,none⟩) hb (.inl hm)).trans (h.froz o)),⟨y,by omega,?_⟩,fun k hk hk' hjk=>?_⟩
 ·have h2:Chain (Part w2 b N) (j+1) y hi (l.drop (j+1)):=(hc2.imp (fun i l h t h=>h.1) (by
   rintro i x1 x2 t' hx1 hx2 ⟨p1,p2,lv2,p3,p4⟩
   exact ⟨p1,p2,lv2,⟨(c2 _).trans p3.kind,(c2 _).trans p3.num,(c2 _).trans p3.text,(c2 _).trans p3.list,(c2 _).trans p3.elem⟩,p4.apart ha2 (by omega) (.inr hx1)⟩)).1
  exact parts_keep h2 (fun o ho _=>set5_other (.inr (.inr (by show j*5+5≤o;omega)))) (set5_apart _ _ _ _ _ _ _ _) (by omega) (by omega)
 ·obtain ⟨a0,a1,a2,a3,a4⟩:=h.marks k hk hk' (by omega)
  have x:∀ i,i<5→(set5 w2 b (j*5) u0 u1 u2 u3 u4).cell? ⟨b,k*5+i,none⟩=wr.cell? ⟨b,k*5+i,none⟩:=fun i hi=>(set5_other (.inr (.inr (by show j*5+5≤k*5+i;omega)))).trans (c2 _)
  exact ⟨(x 0 (by omega)).trans a0,(x 1 (by omega)).trans a1,(x 2 (by omega)).trans a2,(x 3 (by omega)).trans a3,(x 4 (by omega)).trans a4⟩
theorem ARel.mark {w wr:World} {N b lo hi j:Nat} {l:List VT} (h:ARel w wr N b lo hi j l) (hj:l.length≤j) (hj3:j<l.length+3) (hlo:lo≤b) (hbh:b<hi) (_hbs:hi≤w.heap.size) (u0 u1 u2 u3 u4:Value):ARel w (set5 wr b (j*5) u0 u1 u2 u3 u4) N b lo hi (j+1) l:=by
 obtain ⟨mid,hm,hc⟩:=h.parts
 rw [List.drop_eq_nil_of_le hj] at hc
 refine ⟨h.apart.trans ((set5_apart _ _ _ _ _ _ _ _).wide hlo (by omega)),h.has.set5 (by omega),fun o=>(set5_frozen _).trans (h.froz o),⟨mid,hm,by rw [List.drop_eq_nil_of_le (by omega)];exact hc⟩,fun k hk hk' hjk=>?_⟩
 obtain ⟨a0,a1,a2,a3,a4⟩:=h.marks k hk hk' (by omega)
 have x:∀ i,i<5→(set5 wr b (j*5) u0 u1 u2 u3 u4).cell? ⟨b,k*5+i,none⟩=wr.cell? ⟨b,k*5+i,none⟩:=fun i hi=>set5_other (.inr (.inr (by show j*5+5≤k*5+i;omega)))
 exact ⟨(x 0 (by omega)).trans a0,(x 1 (by omega)).trans a1,(x 2 (by omega)).trans a2,(x 3 (by omega)).trans a3,(x 4 (by omega)).trans a4⟩
end Go.Proofs.Nu
namespace Go.Proofs.Nu
def rows:List (Int×List (List UInt8)):=[
 (16,[[111,112,101,110],[98,101,103,105,110],[97,116,116,97,99,104],[102,108,111,119],[116,114,97,110,115,102,101,114],[100,105,115,112,111,115,105,116,105,111,110],[100,101,116,97,99,104],[101,110,100],[99,108,111,115,101]]),
 (29,[[102,97,117,108,116]]),
 (35,[[114,101,99,101,105,118,101,100],[97,99,99,101,112,116,101,100],[114,101,106,101,99,116,101,100],[114,101,108,101,97,115,101,100],[109,111,100,105,102,105,101,100],[115,111,117,114,99,101],[116,97,114,103,101,116]]),
 (48,[[99,111,111,114,100,105,110,97,116,111,114],[100,101,99,108,97,114,101],[100,105,115,99,104,97,114,103,101],[100,101,99,108,97,114,101,100],[116,114,97,110,115,97,99,116,105,111,110,97,108]]),
 (64,[[109,101,99,104,97,110,105,115,109,115],[105,110,105,116],[99,104,97,108,108,101,110,103,101],[114,101,115,112,111,110,115,101],[111,117,116,99,111,109,101]]),
 (112,[[104,101,97,100,101,114],[100,101,108,105,118,101,114,121,45,97,110,110,111,116,97,116,105,111,110,115],[109,101,115,115,97,103,101,45,97,110,110,111,116,97,116,105,111,110,115],[112,114,111,112,101,114,116,105,101,115],[97,112,112,108,105,99,97,116,105,111,110,45,112,114,111,112,101,114,116,105,101,115],[100,97,116,97],[115,101,113,117,101,110,99,101],[118,97,108,117,101],[102,111,111,116,101,114]])]
def lng:List UInt8:=[108,111,110,103,115,104,111,114,101,58]
def form (k:Int):List UInt8:=
 if k=113∨k=114∨k=116∨k=120 then [109,97,112] else if k=117 then [98,105,110,97,114,121] else if k=119 then [97,110,121] else [108,105,115,116]
def hit (k:Int) (r:Int×List (List UInt8)):Option (List UInt8):=if r.1≤k∧k-r.1<(r.2.length:Int) then r.2[(k-r.1).toNat]? else none
def nameL (k:Int):List UInt8:=
 match rows.findSome? (hit k) with
 |some s=>lng++s++[58]++form k
 |none=>[]
theorem rows_apart:∀ r∈rows,∀ q∈rows,r=q∨r.1+r.2.length≤q.1∨q.1+q.2.length≤r.1:=by decide
theorem hit_some {k:Int} {r:Int×List (List UInt8)} (h1:r.1≤k) (h2:k-r.1<(r.2.length:Int)):∃ s,hit k r=some s∧r.2[(k-r.1).toNat]? =some s:=by
 have hl:(k-r.1).toNat<r.2.length:=by omega
 exact ⟨r.2[(k-r.1).toNat],by unfold hit;rw [if_pos ⟨h1,h2⟩,List.getElem?_eq_getElem hl],List.getElem?_eq_getElem hl⟩
theorem hit_of {k:Int} {r:Int×List (List UInt8)} {s:List UInt8} (h:hit k r=some s):r.1≤k∧k-r.1<(r.2.length:Int):=by
 unfold hit at h
 split at h
 ·assumption
 ·cases h
theorem name_hit {k:Int} {r:Int×List (List UInt8)} (hr:r∈rows) (h1:r.1≤k) (h2:k-r.1<(r.2.length:Int)):∃ s,r.2[(k-r.1).toNat]? =some s∧nameL k=lng++s++[58]++form k:=by
 obtain ⟨s,hs,hg⟩:=hit_some h1 h2
 refine ⟨s,hg,?_⟩
 have:rows.findSome? (hit k)=some s:=by
  cases hf:rows.findSome? (hit k) with
  |none=>
   have:=List.findSome?_eq_none_iff.1 hf r hr
   rw [hs] at this;cases this
  |some x=>
   obtain ⟨q,hq,hx⟩:=List.exists_of_findSome?_eq_some hf
   have:=hit_of hx
   rcases rows_apart r hr q hq with e|e|e
   ·subst e;rw [hs] at hx;exact hx.symm
   ·omega
   ·omega
 unfold nameL
 rw [this]
theorem name_none {k:Int} (h:∀ r∈rows,¬(r.1≤k∧k-r.1<(r.2.length:Int))):nameL k=[]:=by
 unfold nameL
 have:rows.findSome? (hit k)=none:=List.findSome?_eq_none_iff.2 fun r hr=>by unfold hit;rw [if_neg (h r hr)]
 rw [this]
def nameB (k:Int):ByteArray:=⟨(nameL k).toArray⟩
theorem rows_len:∀ r∈rows,∀ s∈r.2,s.length≤30:=by decide
theorem form_map (k:Int) (h:(k==113)=true∨(k==114)=true∨(k==116)=true∨(k==120)=true):form k=[109,97,112]:=by
 simp only [beq_iff_eq] at h;unfold form;rw [if_pos h]
theorem form_bin (k:Int) (h:(k==117)=true):form k=[98,105,110,97,114,121]:=by
 simp only [beq_iff_eq] at h;subst h;decide
theorem form_any (k:Int) (h:(k==119)=true):form k=[97,110,121]:=by
 simp only [beq_iff_eq] at h;subst h;decide
theorem form_list (k:Int) (h1:(k==113)=false) (h2:(k==114)=false) (h3:(k==116)=false) (h4:(k==120)=false) (h5:(k==117)=false) (h6:(k==119)=false):form k=[108,105,115,116]:=by
 simp only [beq_eq_false_iff_ne,ne_eq] at*
 unfold form
 rw [if_neg (by omega),if_neg h5,if_neg h6]
theorem name_bytes {k:Int} {s F:List UInt8} (hn:nameL k=lng++s++[58]++form k) (hF:form k=F):
 (⟨#[108,111,110,103,115,104,111,114,101,58]⟩++⟨s.toArray⟩++⟨#[58]⟩++⟨F.toArray⟩:ByteArray)=nameB k:=by
 unfold nameB
 rw [hn,hF]
 apply ByteArray.ext
 simp [lng,ByteArray.data_append]
end Go.Proofs.Nu
namespace Go.Proofs.Nu
open Go Go.RowKit
def empt:ByteArray:=⟨#[]⟩
def hitR (d:VT) (k:Int):Bool:=(!(nameL k).isEmpty)&&(eqT d (.mk 5 k empt 0 [])||eqT d (.mk 20 0 (nameB k) 0 []))
def findR (d:VT):Int→Nat→Option Int
 |_,0=>none
 |k,n+1=>if hitR d k then some k else findR d (k+1) n
def kindD (d:VT):Option Int:=findR d 1 199
def kindOf (t:VT):Option Int:=if t.kind=24∧t.list.length=2 then (t.list.head?).bind kindD else none
def kNum (o:Option Int):Int:=o.getD 0
theorem findR_some {d:VT}:∀ {n:Nat} {k j:Int},k≤j→j<k+n→hitR d j=true→(∀ i,k≤i→i<j→hitR d i=false)→findR d k n=some j
 |0,k,j,h1,h2,_,_=>by omega
 |n+1,k,j,h1,h2,h3,h4=>by
  by_cases h:k=j
  ·subst h;simp [findR,h3]
  ·rw [findR,h4 k (by omega) (by omega)]
   simpa using findR_some (by omega) (by omega) h3 fun i a b=>h4 i (by omega) b
theorem findR_none {d:VT}:∀ {n:Nat} {k:Int},(∀ i,k≤i→i<k+n→hitR d i=false)→findR d k n=none
 |0,k,_=>rfl
 |n+1,k,h=>by
  rw [findR,h k (by omega) (by omega)]
  simpa using findR_none fun i a b=>h i (by omega) (by omega)
theorem eqTs_nil (l:List VT):eqTs l []=decide (l=[]):=by cases l<;>simp [eqTs]
theorem eq_num (d:VT) (k:Int):eqT d (.mk 5 k empt 0 [])=true↔d.kind=5∧d.num=k∧d.text=empt∧d.elem=0∧d.list=[]:=by
 rw [eqT_mk]
 simp only [VT.kind,VT.num,VT.text,VT.elem,VT.list,Bool.and_eq_true,beq_iff_eq,eqTs_nil,decide_eq_true_eq]
 constructor
 ·rintro ⟨a,b,c,e,f⟩;exact ⟨a,b,toList_inj c,e,f⟩
 ·rintro ⟨a,b,c,e,f⟩;exact ⟨a,b,by rw [c],e,f⟩
theorem eq_sym (d:VT) (s:ByteArray):eqT d (.mk 20 0 s 0 [])=true↔d.kind=20∧d.num=0∧d.text=s∧d.elem=0∧d.list=[]:=by
 rw [eqT_mk]
 simp only [VT.kind,VT.num,VT.text,VT.elem,VT.list,Bool.and_eq_true,beq_iff_eq,eqTs_nil,decide_eq_true_eq]
 constructor
 ·rintro ⟨a,b,c,e,f⟩;exact ⟨a,b,toList_inj c,e,f⟩
 ·rintro ⟨a,b,c,e,f⟩;exact ⟨a,b,by rw [c],e,f⟩
theorem hitR_iff (d:VT) (k:Int):hitR d k=true↔nameL k≠[]∧((d.kind=5∧d.num=k∧d.text=empt∧d.elem=0∧d.list=[])∨(d.kind=20∧d.num=0∧d.text=nameB k∧d.elem=0∧d.list=[])):=by
 unfold hitR
 simp only [Bool.and_eq_true,Bool.or_eq_true,eq_num,eq_sym,Bool.not_eq_true',List.isEmpty_eq_false_iff,ne_eq]
theorem hitR_false {d:VT} {k:Int} (h:¬(nameL k≠[]∧((d.kind=5∧d.num=k∧d.text=empt∧d.elem=0∧d.list=[])∨(d.kind=20∧d.num=0∧d.text=nameB k∧d.elem=0∧d.list=[])))):hitR d k=false:=by
 cases hh:hitR d k with
 |false=>rfl
 |true=>exact absurd ((hitR_iff d k).1 hh) h
theorem name_out {k:Int} (h:k<16∨120<k):nameL k=[]:=name_none fun r hr hc=>by
 have hb:∀ r∈rows,16≤r.1∧r.1+r.2.length≤121:=by decide
 have:=hb r hr
 omega
structure NumD (d:VT):Prop where
 kind:d.kind=5
 text:d.text=empt
 elem:d.elem=0
 list:d.list=[]
structure SymD (d:VT):Prop where
 kind:d.kind=20
 num:d.num=0
 elem:d.elem=0
 list:d.list=[]
theorem kindD_num {d:VT} (h:NumD d) (hn:nameL d.num≠[]):kindD d=some d.num:=by
 have hb:16≤d.num∧d.num≤120:=by
  by_cases hh:d.num<16∨120<d.num
  ·exact absurd (name_out hh) hn
  ·omega
 refine findR_some (by omega) (by omega) ((hitR_iff _ _).2 ⟨hn,.inl ⟨h.kind,rfl,h.text,h.elem,h.list⟩⟩) fun i _ hi=>hitR_false ?_
 rintro ⟨_,⟨_,h2,_⟩|⟨h2,_⟩⟩
 ·omega
 ·rw [h.kind] at h2;cases h2
theorem kindD_num_none {d:VT} (h:NumD d) (hn:nameL d.num=[]):kindD d=none:=by
 refine findR_none fun i _ _=>hitR_false ?_
 rintro ⟨h1,⟨_,h2,_⟩|⟨h2,_⟩⟩
 ·rw [h2] at hn;exact h1 hn
 ·rw [h.kind] at h2;cases h2
theorem nameB_eq {k:Int} {s:ByteArray} (h:s=nameB k):s.data.toList=nameL k:=by rw [h];rfl
theorem nameB_toList (k:Int):(nameB k).toList=nameL k:=by rw [Lib.toList_data];rfl
theorem kindD_sym {d:VT} (h:SymD d) {k:Int} (h0:d.text≠empt) (hk:d.text=nameB k) (hlo:∀ i,16≤i→i<k→nameL i≠[]→d.text≠nameB i):kindD d=some k:=by
 have hn:nameL k≠[]:=fun hh=>h0 (by rw [hk];unfold nameB;rw [hh];rfl)
 have hb:16≤k∧k≤120:=by
  by_cases hh:k<16∨120<k
  ·exact absurd (name_out hh) hn
  ·omega
 refine findR_some (by omega) (by omega) ((hitR_iff _ _).2 ⟨hn,.inr ⟨h.kind,h.num,hk,h.elem,h.list⟩⟩) fun i _ hi=>hitR_false ?_
 rintro ⟨h1,⟨h2,_⟩|⟨_,_,h2,_⟩⟩
 ·rw [h.kind] at h2;cases h2
 ·by_cases hh:16≤i
  ·exact hlo i hh hi h1 h2
  ·exact h1 (name_out (by omega))
theorem kindD_sym_none {d:VT} (h:SymD d) (hlo:∀ i,16≤i→i≤120→nameL i≠[]→d.text≠nameB i):kindD d=none:=by
 refine findR_none fun i _ _=>hitR_false ?_
 rintro ⟨h1,⟨h2,_⟩|⟨_,_,h2,_⟩⟩
 ·rw [h.kind] at h2;cases h2
 ·by_cases hh:16≤i∧i≤120
  ·exact hlo i hh.1 hh.2 h1 h2
  ·exact h1 (name_out (by omega))
theorem kindD_none {d:VT} (h1:¬NumD d) (h2:¬SymD d):kindD d=none:=by
 refine findR_none fun i _ _=>hitR_false ?_
 rintro ⟨_,⟨a,_,b,c,e⟩|⟨a,b,_,c,e⟩⟩
 ·exact h1 ⟨a,b,c,e⟩
 ·exact h2 ⟨a,b,c,e⟩
theorem name_prefix {k:Int} (h:nameL k≠[]):lng<+:nameL k:=by
 unfold nameL at h ⊢
 split
 ·exact ⟨_,by rw [List.append_assoc,List.append_assoc]⟩
 ·rename_i hh;rw [hh] at h;exact absurd rfl h
end Go.Proofs.Nu
namespace Go.Proofs.Nu
def wi (s:ByteArray) (k a b:Nat):Bool:=decide (k<s.size)&&(decide (a≤(s.get! k).toNat)&&decide ((s.get! k).toNat≤b))
def tl (s:ByteArray) (k:Nat):Nat→Bool
 |0=>true
 |n+1=>wi s k 128 191&&tl s (k+1) n
def pr (s:ByteArray) (k a b c d n:Nat):Bool:=wi s k a b&&(wi s (k+1) c d&&tl s (k+2) n)
def ch (s:ByteArray) (k:Nat):Nat:=
 if wi s k 0 127 then 1
 else if pr s k 194 223 128 191 0 then 2
 else if pr s k 224 224 160 191 1||(pr s k 225 236 128 191 1||(pr s k 237 237 128 159 1||pr s k 238 239 128 191 1)) then 3
 else if pr s k 240 240 144 191 2||(pr s k 241 243 128 191 2||pr s k 244 244 128 143 2) then 4
 else 0
theorem wi_iff (s:ByteArray) (k a b:Nat):wi s k a b=true↔k<s.size∧a≤(s.get! k).toNat∧(s.get! k).toNat≤b:=by simp [wi]
theorem ch_le (s:ByteArray) (k:Nat):ch s k≤4:=by unfold ch;(repeat' split)<;>omega
theorem bool_false_of {a:Bool} (h:¬a=true):a=false:=by cases a<;>simp_all
set_option maxHeartbeats 4000000 in
theorem decode_ch (s:ByteArray) (k:Nat) (h:k<s.size):
 (ch s k=0→Utf8.decode s k=(65533,1))∧(ch s k≠0→(Utf8.decode s k).2=ch s k∧¬((Utf8.decode s k).1=65533∧(Utf8.decode s k).2=1)):=by
 have l0:=(s.get! k).toNat_lt
 have l1:=(s.get! (k+1)).toNat_lt
 have l2:=(s.get! (k+2)).toNat_lt
 have l3:=(s.get! (k+3)).toNat_lt
 have e0:s.get! (k+0)=s.get! k:=rfl
 obtain ⟨b0,h0⟩:∃ b,(s.get! k).toNat=b:=⟨_,rfl⟩
 obtain ⟨b1,h1⟩:∃ b,(s.get! (k+1)).toNat=b:=⟨_,rfl⟩
 obtain ⟨b2,h2⟩:∃ b,(s.get! (k+2)).toNat=b:=⟨_,rfl⟩
 obtain ⟨b3,h3⟩:∃ b,(s.get! (k+3)).toNat=b:=⟨_,rfl⟩
 obtain ⟨n,hn⟩:∃ n,s.size=n:=⟨_,rfl⟩
 have hch:ch s k=(if b0≤127 then 1 else if 194≤b0∧b0≤223∧k+1<n∧128≤b1∧b1≤191 then 2
  else if k+1<n∧k+2<n∧128≤b2∧b2≤191∧(b0=224∧160≤b1∧b1≤191∨225≤b0∧b0≤236∧128≤b1∧b1≤191∨b0=237∧128≤b1∧b1≤159∨238≤b0∧b0≤239∧128≤b1∧b1≤191) then 3
  else if k+1<n∧k+2<n∧k+3<n∧128≤b2∧b2≤191∧128≤b3∧b3≤191∧(b0=240∧144≤b1∧b1≤191∨241≤b0∧b0≤243∧128≤b1∧b1≤191∨b0=244∧128≤b1∧b1≤143) then 4 else 0):=by
  unfold ch pr
  simp only [tl,Bool.and_true,Bool.or_eq_true,Bool.and_eq_true,wi_iff,hn,h0,h1,h2,h3,show k+2+1=k+3 from rfl]
  have hk:k<n:=by omega
  congr 1
  ·simp [hk]
  ·congr 1
   ·apply propext;constructor<;>(intro;omega)
   ·congr 1
    ·apply propext;constructor<;>(intro;omega)
    ·congr 1
     apply propext;constructor<;>(intro;omega)
 have hd:Utf8.decode s k=(if b0<0x80 then (b0,1) else if b0/32=6∧k+1<n∧b1/64=2 then
       (if b0%32*64+b1%64≥0x80 then (b0%32*64+b1%64,2) else (65533,1))
  else if b0/16=14∧(k+1<n∧b1/64=2)∧k+2<n∧b2/64=2 then
   (if b0%16*4096+b1%64*64+b2%64≥0x800∧(b0%16*4096+b1%64*64+b2%64<0xD800∨0xE000≤b0%16*4096+b1%64*64+b2%64) then (b0%16*4096+b1%64*64+b2%64,3) else (65533,1))
  else if b0/8=30∧(k+1<n∧b1/64=2)∧(k+2<n∧b2/64=2)∧k+3<n∧b3/64=2 then
   (if b0%8*262144+b1%64*4096+b2%64*64+b3%64≥0x10000∧b0%8*262144+b1%64*4096+b2%64*64+b3%64≤0x10FFFF then (b0%8*262144+b1%64*4096+b2%64*64+b3%64,4) else (65533,1))
  else (65533,1)):=by
  unfold Utf8.decode Utf8.valid Utf8.runeError
  simp only [Nat.add_zero,h0,h1,h2,h3,hn,Bool.and_eq_true,beq_iff_eq,decide_eq_true_eq,Bool.or_eq_true,and_assoc]
  congr 1
  congr 1
  congr 1
  ·congr 1
   apply propext;constructor<;>(intro;omega)
  ·congr 1
   congr 1
   apply propext;constructor<;>(intro;omega)
 rw [hch,hd]
 clear hch hd
 rw [h0] at l0;rw [h1] at l1;rw [h2] at l2;rw [h3] at l3
 repeat' split
 all_goals (constructor<;>intro hh<;>first|(simp only [Prod.mk.injEq];omega)|(exfalso;omega)|rfl|omega)
end Go.Proofs.Nu
namespace Go.Proofs.Nu
open Go
theorem get!_le (s:ByteArray) (k:Nat) (h:s.size≤k):s.get! k=0:=by
 cases s with
 |mk d=>
  show d[k]! =0
  rw [getElem!_neg d k (by show ¬k<d.size;have:d.size≤k:=h;omega)]
  rfl
theorem get!_lt (s:ByteArray) (k:Nat) (h:k<s.size):s.get! k=s[k]'h:=by
 cases s with
 |mk d=>exact getElem!_pos d k h
theorem get!_extract (s:ByteArray) (k j:Nat) (hk:k≤s.size):(s.extract k s.size).get! j=s.get! (k+j):=by
 by_cases h:k+j<s.size
 ·rw [get!_lt s _ h,get!_lt _ j (by simp;omega)]
  simp [ByteArray.getElem_extract]
 ·rw [get!_le s _ (by omega),get!_le _ j (by simp;omega)]
theorem decode_extract (s:ByteArray) (k:Nat) (hk:k≤s.size):Utf8.decode (s.extract k s.size) 0=Utf8.decode s k:=by
 have hsz:(s.extract k s.size).size=s.size-k:=by simp
 have e:∀ j,(j<s.size-k)=(k+j<s.size):=fun j=>by apply propext;omega
 unfold Utf8.decode
 simp only [get!_extract s k _ hk,hsz,Nat.zero_add,Nat.add_zero,e]
def bad (s:ByteArray):Nat→Nat→Option Nat
 |0,_=>none
 |f+1,k=>if k<s.size then (if ch s k=0 then some k else bad s f (k+ch s k)) else none
theorem bad_fuel (s:ByteArray):∀ (f g k:Nat),s.size-k≤f→s.size-k≤g→bad s f k=bad s g k
 |0,0,_,_,_=>rfl
 |0,g+1,k,h,_=>by
  have:¬k<s.size:=by omega
  simp [bad,this]
 |f+1,0,k,_,h=>by
  have:¬k<s.size:=by omega
  simp [bad,this]
 |f+1,g+1,k,h1,h2=>by
  simp only [bad]
  by_cases hk:k<s.size
  ·rw [if_pos hk,if_pos hk]
   by_cases hc:ch s k=0
   ·rw [if_pos hc,if_pos hc]
   ·rw [if_neg hc,if_neg hc]
    exact bad_fuel s f g _ (by omega) (by omega)
  ·rw [if_neg hk,if_neg hk]
def utfFrom (s:ByteArray) (k:Nat):Int:=match bad s (s.size-k) k with|some j=>(j:Int)|none=> -1
def utf (s:ByteArray):Int:=utfFrom s 0
theorem utf_end {s:ByteArray} {k:Nat} (h:¬k<s.size):utfFrom s k= -1:=by
 unfold utfFrom
 rw [show s.size-k=0 by omega];rfl
theorem utf_bad {s:ByteArray} {k:Nat} (h:k<s.size) (hc:ch s k=0):utfFrom s k=k:=by
 unfold utfFrom
 obtain ⟨f,hf⟩:∃ f,s.size-k=f+1:=⟨s.size-k-1,by omega⟩
 rw [hf]
 simp [bad,h,hc]
theorem utf_step {s:ByteArray} {k:Nat} (h:k<s.size) (hc:ch s k≠0):utfFrom s k=utfFrom s (k+ch s k):=by
 unfold utfFrom
 obtain ⟨f,hf⟩:∃ f,s.size-k=f+1:=⟨s.size-k-1,by omega⟩
 rw [hf]
 have:bad s (f+1) k=bad s (s.size-(k+ch s k)) (k+ch s k):=by
  rw [bad,if_pos h,if_neg hc]
  exact bad_fuel s _ _ _ (by omega) (by omega)
 rw [this]
theorem ch_fit {s:ByteArray} {k:Nat} (hc:ch s k≠0):k+ch s k≤s.size:=by
 have key:∀ j a b,wi s j a b=true→j<s.size:=fun j a b h=>((wi_iff s j a b).1 h).1
 unfold ch at hc ⊢
 split
 ·have:=key _ _ _ ‹_›;omega
 ·split
  ·rename_i h
   simp only [pr,Bool.and_eq_true] at h
   have:=key _ _ _ h.2.1;omega
  ·split
   ·rename_i h
    simp only [pr,tl,Bool.and_eq_true,Bool.or_eq_true,Bool.and_true] at h
    have:k+2<s.size:=by
     rcases h with h|h|h|h<;>exact key _ _ _ h.2.2
    omega
   ·split
    ·rename_i h
     simp only [pr,tl,Bool.and_eq_true,Bool.or_eq_true,Bool.and_true] at h
     have:k+2+1<s.size:=by
      rcases h with h|h|h<;>exact key _ _ _ h.2.2.2
     omega
    ·rename_i h1 h2 h3 h4
     rw [if_neg h1,if_neg h2,if_neg h3,if_neg h4] at hc
     exact absurd rfl hc
end Go.Proofs.Nu
namespace Go.Proofs.Nu
open Go Go.RowKit
def hasT (k:Int):Bool:=k==14||(k==17||(k==18||(k==19||k==20)))
def hasP (k:Int):Bool:=k==21||(k==22||(k==23||k==24))
def hasN (k:Int):Bool:= !(k==0)&&(!hasT k&& !hasP k)
def extraT (k m:Int) (s:ByteArray) (e:Int) (n:Nat):Bool:=(!hasN k&&decide (m≠0))||((!hasT k&&decide (s.size≠0))||((!hasP k&&decide (0<n))||(decide (k≠23)&&decide (e≠0))))
def signed (m:Int) (b:Int):Bool:=decide (m<b)||decide (18446744073709551616-b≤m)
def numT (k m:Int):Bool:=
 if k=1 then decide (m<2) else if k=2 then decide (m<256) else if k=3 then decide (m<65536)
 else if k=4∨k=10∨k=12 then decide (m<4294967296)
 else if k=6 then signed m 128 else if k=7 then signed m 32768 else if k=8 then signed m 2147483648
 else if k=15 then decide (m<55296)||(decide (57343<m)&&decide (m≤1114111)) else true
def ascFrom (s:ByteArray) (k:Nat):Int:=match (s.data.toList.drop k).findIdx? (fun x=>decide (128≤x.toNat)) with|some j=>((k+j:Nat):Int)|none=> -1
def asc (s:ByteArray):Int:=ascFrom s 0
theorem asc_end {s:ByteArray} {k:Nat} (h:s.size≤k):ascFrom s k= -1:=by
 unfold ascFrom
 rw [List.drop_eq_nil_of_le (by rw [←Lib.size_eq];exact h)]
 rfl
theorem drop_get {s:ByteArray} {k:Nat} (h:k<s.size):s.data.toList.drop k=s[k]::s.data.toList.drop (k+1):=by
 rw [List.drop_eq_getElem_cons (by rw [←Lib.size_eq];exact h)]
 rfl
theorem asc_hit {s:ByteArray} {k:Nat} (h:k<s.size) (hc:128≤s[k].toNat):ascFrom s k=k:=by
 unfold ascFrom
 rw [drop_get h,List.findIdx?_cons]
 simp [hc]
theorem asc_step {s:ByteArray} {k:Nat} (h:k<s.size) (hc:¬128≤s[k].toNat):ascFrom s k=ascFrom s (k+1):=by
 unfold ascFrom
 rw [drop_get h,List.findIdx?_cons]
 have:decide (128≤s[k].toNat)=false:=by simpa using hc
 rw [this]
 cases (s.data.toList.drop (k+1)).findIdx? (fun x=>decide (128≤x.toNat)) with
 |none=>rfl
 |some j=>simp only [Bool.false_eq_true,if_false,Option.map_some];congr 1;omega
def textT (k:Int) (s:ByteArray):Bool:=
 if k=14∨k=17 then decide (s.size=16) else if k=19 then decide (utf s<0) else if k=20 then decide (asc s<0) else true
structure Lin {α:Type} (f:α→α→Int):Prop where
 eq:∀ a b,f a b=0↔a=b
 sym:∀ a b,f b a= -f a b
 trans:∀ a b c,f a b<0→f b c<0→f a c<0
def seq (x y:Int):Int:=if x=0 then y else x
theorem lin_int:Lin Lib.compareInt:=by
 refine ⟨fun a b=>?_,fun a b=>?_,fun a b c=>?_⟩<;>unfold Lib.compareInt<;>(repeat' split)<;>omega
theorem bytes_eq:∀ a b:List UInt8,Lib.compareBytes a b=0↔a=b
 |[],[]=>by simp [Lib.compareBytes]
 |[],_::_=>by simp [Lib.compareBytes]
 |_::_,[]=>by simp [Lib.compareBytes]
 |a::as,b::bs=>by
  have ih:=bytes_eq as bs
  simp only [Lib.compareBytes]
  by_cases h1:a<b
  ·rw [if_pos h1]
   constructor
   ·intro h;cases h
   ·intro h;cases h;exact absurd h1 (UInt8.lt_irrefl _)
  ·rw [if_neg h1]
   by_cases h2:b<a
   ·rw [if_pos h2]
    constructor
    ·intro h;cases h
    ·intro h;cases h;exact absurd h2 (UInt8.lt_irrefl _)
   ·rw [if_neg h2,ih]
    have:a=b:=UInt8.le_antisymm (UInt8.not_lt.1 h2) (UInt8.not_lt.1 h1)
    subst this
    simp
theorem bytes_sym:∀ a b:List UInt8,Lib.compareBytes b a= -Lib.compareBytes a b
 |[],[]=>by simp [Lib.compareBytes]
 |[],_::_=>by simp [Lib.compareBytes]
 |_::_,[]=>by simp [Lib.compareBytes]
 |a::as,b::bs=>by
  have ih:=bytes_sym as bs
  simp only [Lib.compareBytes]
  by_cases h1:a<b
  ·have h2:¬b<a:=UInt8.lt_asymm h1
   simp [h1,h2]
  ·by_cases h2:b<a
   ·simp [h1,h2]
   ·simp [h1,h2,ih]
theorem bytes_trans:∀ a b c:List UInt8,Lib.compareBytes a b<0→Lib.compareBytes b c<0→Lib.compareBytes a c<0
 |[],[],_,h,_=>by simp [Lib.compareBytes] at h
 |[],_::_,[],_,h=>by simp [Lib.compareBytes] at h
 |[],_::_,_::_,_,_=>by simp [Lib.compareBytes]
 |_::_,[],_,h,_=>by simp [Lib.compareBytes] at h
 |_::_,_::_,[],_,h=>by simp [Lib.compareBytes] at h
 |a::as,b::bs,c::cs,h1,h2=>by
  have ih:=bytes_trans as bs cs
  simp only [Lib.compareBytes] at h1 h2 ⊢
  have t:∀ x y:UInt8,x<y↔x.toNat<y.toNat:=fun x y=>UInt8.lt_iff_toNat_lt
  simp only [t] at h1 h2 ⊢
  by_cases a1:a.toNat<b.toNat<;>by_cases a2:b.toNat<a.toNat<;>by_cases b1:b.toNat<c.toNat<;>by_cases b2:c.toNat<b.toNat<;>simp [a1,a2,b1,b2] at h1 h2<;>by_cases c1:a.toNat<c.toNat<;>by_cases c2:c.toNat<a.toNat<;>simp [c1,c2]<;>first|omega|exact ih h1 h2
theorem lin_bytes:Lin Lib.compareBytes:=⟨bytes_eq,bytes_sym,bytes_trans⟩
theorem Lin.two {α β γ:Type} {f:α→α→Int} {g:β→β→Int} (F:Lin f) (G:Lin g) (p:γ→α) (q:γ→β) (hpq:∀ x y,p x=p y→q x=q y→x=y):Lin fun x y=>seq (f (p x) (p y)) (g (q x) (q y)):=by
 refine ⟨fun a b=>?_,fun a b=>?_,fun a b c h1 h2=>?_⟩
 ·unfold seq
  by_cases h:f (p a) (p b)=0
  ·rw [if_pos h,G.eq]
   exact ⟨fun k=>hpq _ _ ((F.eq _ _).1 h) k,fun k=>by rw [k]⟩
  ·rw [if_neg h]
   exact ⟨fun k=>absurd k h,fun k=>by rw [k];exact (F.eq _ _).2 rfl⟩
 ·unfold seq
  have h1:=F.sym (p a) (p b)
  have h2:=G.sym (q a) (q b)
  by_cases h:f (p a) (p b)=0
  ·rw [if_pos h,if_pos (by omega)];exact h2
  ·rw [if_neg h,if_neg (by omega)];exact h1
 ·unfold seq at h1 h2 ⊢
  by_cases e1:f (p a) (p b)=0
  ·rw [if_pos e1] at h1
   have ea:=(F.eq _ _).1 e1
   by_cases e2:f (p b) (p c)=0
   ·rw [if_pos e2] at h2
    rw [if_pos (by rw [ea];exact e2)]
    exact G.trans _ _ _ h1 h2
   ·rw [if_neg e2] at h2
    rw [ea,if_neg e2];exact h2
  ·rw [if_neg e1] at h1
   by_cases e2:f (p b) (p c)=0
   ·have eb:=(F.eq _ _).1 e2
    rw [←eb,if_neg e1];exact h1
   ·rw [if_neg e2] at h2
    have:=F.trans _ _ _ h1 h2
    rw [if_neg (by omega)];exact this
mutual
def ordT:VT→VT→Int
 | .mk k m s e l,.mk k' m' s' e' l'=>seq (seq (Lib.compareInt k k') (seq (Lib.compareInt m m') (Lib.compareBytes s.data.toList s'.data.toList))) (seq (ordTs l l') (Lib.compareInt e e'))
def ordTs:List VT→List VT→Int
 |[],[]=>0
 |[],_::_=> -1
 |_::_,[]=>1
 |a::l,b::r=>seq (ordT a b) (ordTs l r)
end
theorem seq_zero {x y:Int}:seq x y=0↔x=0∧y=0:=by unfold seq;split<;>omega
theorem seq_0 (y:Int):seq 0 y=y:=rfl
theorem seq_ne {x:Int} (h:¬x=0) (y:Int):seq x y=x:=if_neg h
theorem seq_neg {x y:Int}:seq (-x) (-y)= -seq x y:=by unfold seq;(repeat' split)<;>omega
def Tri (x y z:Int):Prop:=(x<0→y<0→z<0)∧(x=0→z=y)∧(y=0→z=x)
theorem Lin.tri {α:Type} {f:α→α→Int} (F:Lin f) (a b c:α):Tri (f a b) (f b c) (f a c):=
 ⟨F.trans a b c,fun h=>by rw [(F.eq _ _).1 h],fun h=>by rw [(F.eq _ _).1 h]⟩
theorem Tri.seq {x y z x' y' z':Int} (h:Tri x y z) (k:Tri x' y' z'):Tri (seq x x') (seq y y') (seq z z'):=by
 unfold Tri Nu.seq at*
 obtain ⟨h1,h2,h3⟩:=h
 obtain ⟨k1,k2,k3⟩:=k
 by_cases hx:x=0<;>by_cases hy:y=0<;>by_cases hz:z=0<;>simp_all<;>omega
mutual
theorem ordT_eq:∀ a b:VT,ordT a b=0↔a=b
 | .mk k m s e l,.mk k' m' s' e' l'=>by
   have ih:=ordTs_eq l l'
   simp only [ordT,seq_zero,lin_int.eq,lin_bytes.eq,ih,VT.mk.injEq]
   constructor
   ·rintro ⟨⟨a,b,c⟩,d,f⟩
    refine ⟨a,b,?_,f,d⟩
    cases s;cases s'
    congr 1
    exact Array.toList_inj.1 c
   ·rintro ⟨a,b,c,f,d⟩
    exact ⟨⟨a,b,by rw [c]⟩,d,f⟩
theorem ordTs_eq:∀ l r:List VT,ordTs l r=0↔l=r
 |[],[]=>by simp [ordTs]
 |[],_::_=>by simp [ordTs]
 |_::_,[]=>by simp [ordTs]
 |a::l,b::r=>by
  have i1:=ordT_eq a b
  have i2:=ordTs_eq l r
  simp only [ordTs,seq_zero,i1,i2,List.cons.injEq]
end
mutual
theorem ordT_sym:∀ a b:VT,ordT b a= -ordT a b
 | .mk k m s e l,.mk k' m' s' e' l'=>by
   have ih:=ordTs_sym l l'
   simp only [ordT]
   rw [lin_int.sym k k',lin_int.sym m m',lin_bytes.sym s.data.toList,lin_int.sym e e',ih,seq_neg,seq_neg,seq_neg,seq_neg]
theorem ordTs_sym:∀ l r:List VT,ordTs r l= -ordTs l r
 |[],[]=>by simp [ordTs]
 |[],_::_=>by simp [ordTs]
 |_::_,[]=>by simp [ordTs]
 |a::l,b::r=>by
  have i1:=ordT_sym a b
  have i2:=ordTs_sym l r
  simp only [ordTs]
  rw [i1,i2,seq_neg]
end
mutual
theorem ordT_tri:∀ a b c:VT,Tri (ordT a b) (ordT b c) (ordT a c)
 | .mk k m s e l,.mk k' m' s' e' l',.mk k2 m2 s2 e2 l2=>by
   have ih:=ordTs_tri l l' l2
   simp only [ordT]
   exact ((lin_int.tri _ _ _).seq ((lin_int.tri _ _ _).seq (lin_bytes.tri _ _ _))).seq (ih.seq (lin_int.tri _ _ _))
theorem ordTs_tri:∀ a b c:List VT,Tri (ordTs a b) (ordTs b c) (ordTs a c)
 |[],[],c=>by simp [Tri,ordTs]
 |[],_::_,[]=>by simp [Tri,ordTs]
 |[],_::_,_::_=>by simp [Tri,ordTs]
 |_::_,[],[]=>by simp [Tri,ordTs]
 |_::_,[],_::_=>by simp [Tri,ordTs]
 |_::_,_::_,[]=>by simp [Tri,ordTs]
 |a::l,b::r,c::q=>by
  have i1:=ordT_tri a b c
  have i2:=ordTs_tri l r q
  simp only [ordTs]
  exact i1.seq i2
end
theorem lin_ord:Lin ordT:=⟨ordT_eq,ordT_sym,fun a b c=>(ordT_tri a b c).1⟩
mutual
theorem eqT_iff:∀ a b:VT,eqT a b=true↔a=b
 | .mk k m s e l,.mk k' m' s' e' l'=>by
   have ih:=eqTs_iff l l'
   simp only [eqT,Bool.and_eq_true,beq_iff_eq,ih,VT.mk.injEq]
   constructor
   ·rintro ⟨a,b,c,d,f⟩;exact ⟨a,b,toList_inj c,d,f⟩
   ·rintro ⟨a,b,c,d,f⟩;exact ⟨a,b,by rw [c],d,f⟩
theorem eqTs_iff:∀ l r:List VT,eqTs l r=true↔l=r
 |[],[]=>by simp [eqTs]
 |[],_::_=>by simp [eqTs]
 |_::_,[]=>by simp [eqTs]
 |a::l,b::r=>by
  have i1:=eqT_iff a b
  have i2:=eqTs_iff l r
  simp only [eqTs,Bool.and_eq_true,i1,i2,List.cons.injEq]
end
theorem swo_lin {α:Type} {f:α→α→Int} (F:Lin f):Sort.SWO (fun x y=>decide (f x y<0)) where
 irrefl x:=by have:=(F.eq x x).2 rfl;simp [this]
 trans x y z h1 h2:=by simp only [decide_eq_true_eq] at*;exact F.trans _ _ _ h1 h2
 ntrans x y z h1 h2:=by
  simp only [decide_eq_false_iff_not] at*
  intro h
  have s1:=F.sym x y
  have s2:=F.sym y z
  by_cases e1:f x y=0
  ·rw [(F.eq _ _).1 e1] at h;exact h2 h
  ·by_cases e2:f y z=0
   ·rw [←(F.eq _ _).1 e2] at h;exact h1 h
   ·have:=F.trans z y x (by omega) (by omega)
    have s3:=F.sym x z
    omega
theorem ordTs_step {l r:List VT} {k:Nat} {a b:VT} (ha:l[k]? =some a) (hb:r[k]? =some b):ordTs (l.drop k) (r.drop k)=seq (ordT a b) (ordTs (l.drop (k+1)) (r.drop (k+1))):=by
 have h1:l.drop k=a::l.drop (k+1):=by
  rw [List.drop_eq_getElem_cons (List.getElem?_eq_some_iff.1 ha).1];congr 1;exact (List.getElem?_eq_some_iff.1 ha).2
 have h2:r.drop k=b::r.drop (k+1):=by
  rw [List.drop_eq_getElem_cons (List.getElem?_eq_some_iff.1 hb).1];congr 1;exact (List.getElem?_eq_some_iff.1 hb).2
 rw [h1,h2,ordTs]
theorem ordTs_over {l r:List VT} {k:Nat} (h1:k<l.length) (h2:r.length≤k):ordTs (l.drop k) (r.drop k)=1:=by
 rw [List.drop_eq_getElem_cons h1,List.drop_eq_nil_of_le h2,ordTs]
theorem ordTs_end {l r:List VT} {k:Nat} (h1:l.length≤k):ordTs (l.drop k) (r.drop k)=if k<r.length then -1 else 0:=by
 rw [List.drop_eq_nil_of_le h1]
 by_cases h:k<r.length
 ·rw [List.drop_eq_getElem_cons h,ordTs,if_pos h]
 ·rw [List.drop_eq_nil_of_le (by omega),ordTs,if_neg h]
def Grows (w w':World):Prop:=∃ (q:Nat) (os:Array Obj),w'=Sort.grow (w.drewN q) os
theorem Grows.refl (w:World):Grows w w:=⟨0,#[],by unfold Sort.grow World.drewN;simp⟩
theorem Grows.trans {a b c:World} (h:Grows a b) (k:Grows b c):Grows a c:=by
 obtain ⟨q,os,rfl⟩:=h
 obtain ⟨q',os',rfl⟩:=k
 exact ⟨q+q',os++os',by unfold Sort.grow World.drewN;simp [Array.append_assoc,Nat.add_assoc]⟩
theorem Grows.alloc {a b:World} (h:Grows a b) (o:Obj):Grows a (b.alloc o):=h.trans ⟨0,#[o],by unfold Sort.grow World.drewN World.alloc;simp⟩
theorem Grows.drew {a b:World} (h:Grows a b):Grows a b.drew:=h.trans ⟨1,#[],by unfold Sort.grow World.drewN World.drew;simp⟩
theorem Grows.drewN {a b:World} (h:Grows a b) (n:Nat):Grows a (b.drewN n):=h.trans ⟨n,#[],by unfold Sort.grow World.drewN;simp⟩
theorem Grows.below {a b:World} (h:Grows a b):Below a.heap.size a b:=by
 obtain ⟨q,os,rfl⟩:=h
 refine ⟨rfl,rfl,rfl,?_,fun k hk=>?_⟩
 ·show a.heap.size≤(a.heap++os).size
  simp
 ·show (a.heap++os)[k]? =a.heap[k]?
  rw [Array.getElem?_append_left hk]
theorem Grows.size {a b:World} (h:Grows a b):a.heap.size≤b.heap.size:=h.below.size
theorem Cells.all {w:World} {b o:Nat} {s:ST} {il al lv:Value} (h:Cells w b o (s.cells il al lv)):
 w.cell? ⟨b,o,none⟩=some (.int .i64 s.kind)∧w.cell? ⟨b,o+1,none⟩=some (.int .i64 s.section_)∧w.cell? ⟨b,o+2,none⟩=some (.int .i64 s.offset)∧w.cell? ⟨b,o+3,none⟩=some (.string s.cond)∧w.cell? ⟨b,o+4,none⟩=some (.string s.text)∧
 w.cell? ⟨b,o+5,none⟩=some (.int .i64 s.info.kind)∧w.cell? ⟨b,o+6,none⟩=some (.int .u64 s.info.num)∧w.cell? ⟨b,o+7,none⟩=some (.string s.info.text)∧w.cell? ⟨b,o+8,none⟩=some il∧w.cell? ⟨b,o+9,none⟩=some (.int .i64 s.info.elem)∧
 w.cell? ⟨b,o+10,none⟩=some (.bool s.failed)∧w.cell? ⟨b,o+11,none⟩=some (.bool s.elsewhere)∧w.cell? ⟨b,o+12,none⟩=some (.int .i64 s.ann.kind)∧w.cell? ⟨b,o+13,none⟩=some (.int .u64 s.ann.num)∧w.cell? ⟨b,o+14,none⟩=some (.string s.ann.text)∧w.cell? ⟨b,o+15,none⟩=some al∧w.cell? ⟨b,o+16,none⟩=some (.int .i64 s.ann.elem)∧w.cell? ⟨b,o+17,none⟩=some (.string s.txn)∧w.cell? ⟨b,o+18,none⟩=some lv:=
 ⟨h 0 _ rfl,h 1 _ rfl,h 2 _ rfl,h 3 _ rfl,h 4 _ rfl,h 5 _ rfl,h 6 _ rfl,h 7 _ rfl,h 8 _ rfl,h 9 _ rfl,h 10 _ rfl,h 11 _ rfl,h 12 _ rfl,h 13 _ rfl,h 14 _ rfl,h 15 _ rfl,h 16 _ rfl,h 17 _ rfl,h 18 _ rfl⟩
theorem Cells.of_heap {w:World} {b:Nat} {cs:List Value} {T:TypeId} {fr:Nat×Nat} (h:w.heap[b]? =some (.cells cs.toArray T fr)):Cells w b 0 cs:=fun j u hu=>by
 simp [World.cell?,h,hu]
theorem heap_alloc_new (w:World) (o:Obj):(w.alloc o).heap[w.heap.size]? =some o:=by
 show (w.heap.push o)[w.heap.size]? =some o
 simp
theorem heap_alloc_size (w:World) (o:Obj):(w.alloc o).heap.size=w.heap.size+1:=Array.size_push ..
theorem two_blocks {w W:World} {o o':Obj} (h:(w.alloc o).alloc o'=W):W.heap[w.heap.size]? =some o∧W.heap[w.heap.size+1]? =some o'∧W.heap.size=w.heap.size+2∧Below w.heap.size w W:=by
 subst h
 refine ⟨(Below.heap_alloc _ _ _ (by rw [heap_alloc_size];omega)).trans (heap_alloc_new _ _),?_,by rw [heap_alloc_size,heap_alloc_size],((Below.refl _ _).alloc (Nat.le_refl _) _).alloc (by rw [heap_alloc_size];omega) _⟩
 rw [←heap_alloc_size w o]
 exact heap_alloc_new _ _
theorem one_block {w W:World} {o:Obj} (h:w.alloc o=W):W.heap[w.heap.size]? =some o∧W.heap.size=w.heap.size+1∧Below w.heap.size w W:=by
 subst h
 exact ⟨heap_alloc_new _ _,heap_alloc_size _ _,(Below.refl _ _).alloc (Nat.le_refl _) _⟩
theorem pair_lat {w:World} {b N B:Nat} {t0 t1:VT} {l0 l1:Value} {T:TypeId} {fr:Nat×Nat} (h:w.heap[b]? =some (.cells #[.int .i64 t0.kind,.int .u64 t0.num,.string t0.text,l0,.int .i64 t0.elem,.int .i64 t1.kind,.int .u64 t1.num,.string t1.text,l1,.int .i64 t1.elem] T fr))
 (hB:b<B) (f0:t0.Fine) (f1:t1.Fine) (h0:LAt B w N l0 t0.list) (h1:LAt B w N l1 t1.list):LAt B w (N+1) (.slice (some ⟨b,0,none⟩) 2 2) [t0,t1]:=by
 have hc:Cells w b 0 [.int .i64 t0.kind,.int .u64 t0.num,.string t0.text,l0,.int .i64 t0.elem,.int .i64 t1.kind,.int .u64 t1.num,.string t1.text,l1,.int .i64 t1.elem]:=Cells.of_heap h
 refine .inr ⟨b,0,2,rfl,hB,by show 2≤maxLen;decide,fun i t ht=>?_⟩
 match i,ht with
 |0,ht=>cases ht;exact ⟨f0,l0,⟨hc 0 _ rfl,hc 1 _ rfl,hc 2 _ rfl,hc 3 _ rfl,hc 4 _ rfl⟩,h0⟩
 |1,ht=>cases ht;exact ⟨f1,l1,⟨hc 5 _ rfl,hc 6 _ rfl,hc 7 _ rfl,hc 8 _ rfl,hc 9 _ rfl⟩,h1⟩
 |i+2,ht=>simp at ht
theorem LAt.up' {B B':Nat} {w:World} (hB:B≤B') {n:Nat} {v:Value} {ts:List VT} (h:LAt B w n v ts):LAt B' w n v ts:=LAt.up hB h
theorem setCells_size (_w:World) (b:Nat):∀ (vs:List Value) (o:Nat) (w:World),(w.setCells b o vs).heap.size=w.heap.size
 |[],_,_=>rfl
 |v::r,o,w=>by rw [World.setCells,setCells_size w b r];simp [World.setCell]
theorem setCells_apart {lo hi b:Nat} (h1:lo≤b) (h2:b<hi) {a:World}:∀ (vs:List Value) (o:Nat) (w:World),Apart lo hi a w→Apart lo hi a (w.setCells b o vs)
 |[],_,_,h=>h
 |v::r,o,w,h=>by rw [World.setCells];exact setCells_apart h1 h2 r (o+1) _ (h.setCell (p:=⟨b,o,none⟩) h1 h2 v)
theorem setCells_below {B b:Nat} (h1:B≤b) {a:World}:∀ (vs:List Value) (o:Nat) (w:World),Below B a w→Below B a (w.setCells b o vs)
 |[],_,_,h=>h
 |v::r,o,w,h=>by rw [World.setCells];exact setCells_below h1 r (o+1) _ (h.setCell (p:=⟨b,o,none⟩) h1 v)
theorem Has.setCells {w:World} {b m o:Nat} {vs:List Value} (h:Has w b m) (ho:o+vs.length≤m):Has (w.setCells b o vs) b m:=fun j hj=>by
 by_cases hx:j<o∨o+vs.length≤j
 ·rw [World.cell?_setCells_out b vs o w ⟨b,j,none⟩ (fun _ _=>hx)]
  exact h j hj
 ·have:=World.cell?_setCells_in b vs o w (fun k hk=>by obtain ⟨v,hv⟩:=h (o+k) (by omega);rw [hv];rfl) (j-o) (by omega)
  rw [show o+(j-o)=j by omega] at this
  exact ⟨_,this⟩
theorem Has.setC {w:World} {b m o:Nat} {vs:List Value} (h:Has w b m) (ho:o+vs.length≤m):Cells (w.setCells b o vs) b o vs:=fun j u hu=>by
 have hj:=(List.getElem?_eq_some_iff.1 hu).1
 have:=World.cell?_setCells_in b vs o w (fun k hk=>by obtain ⟨v,hv⟩:=h (o+k) (by omega);rw [hv];rfl) j hj
 rw [this,←(List.getElem?_eq_some_iff.1 hu).2]
theorem Has.there {w:World} {b m o n:Nat} (h:Has w b m) (hf:∀ j,w.frozen? ⟨b,j,none⟩=false) (ho:o+n≤m):w.there b o n:=fun j hj=>by
 obtain ⟨v,hv⟩:=h (o+j) (by omega)
 exact ⟨by rw [hv];rfl,hf _⟩
theorem Cells.keep {w w':World} {b o:Nat} {cs:List Value} (h:Cells w b o cs) (hc:∀ j,j<cs.length→w'.cell? ⟨b,o+j,none⟩=w.cell? ⟨b,o+j,none⟩):Cells w' b o cs:=fun j u hu=>(hc j (List.getElem?_eq_some_iff.1 hu).1).trans (h j u hu)
def SPart (w:World) (b N n:Nat) (i l h:Nat) (s:ST):Prop:=l≤h∧s.Fine∧∃ il al lv m1 m2,Cells w b (i*19) (s.cells il al lv)∧LentAt w N l m1 il s.info.list∧LentAt w N m1 m2 al s.ann.list∧SLent w N n m2 h lv s.inner
theorem scells_len (s:ST) (il al lv:Value):(s.cells il al lv).length=19:=rfl
theorem sparts_keep {w w':World} {b N n i m hi x:Nat} {ts:List ST} (h:Chain (SPart w b N n) i m hi ts) (hc:∀ j,i*19≤j→j<(i+ts.length)*19→w'.cell? ⟨b,j,none⟩=w.cell? ⟨b,j,none⟩) (ha:Apart b x w w') (hhi:hi≤w.heap.size) (hx:x≤m):Chain (SPart w' b N n) i m hi ts:=
 (h.imp' (fun _ _ _ _ p=>p.1) (by
   rintro j l h t hj hj' hl hh ⟨e1,e2,il,al,lv,m1,m2,e3,e4,e5,e6⟩
   have l1:=e4.le
   have l2:=e5.le
   have l3:=e6.le
   exact ⟨e1,e2,il,al,lv,m1,m2,e3.keep (fun k hk=>hc _ (by omega) (by rw [scells_len] at hk;omega)),e4.apart ha (by omega) (by omega),e5.apart ha (by omega) (by omega),e6.apart ha (by omega) (by omega)⟩)).1
structure SRel (b0:Nat) (w wr:World) (N n j:Nat) (ss:List ST):Prop where
 below:Below b0 w wr
 lt:w.heap.size<wr.heap.size
 ge:b0≤w.heap.size
 keep:Below w.heap.size w wr
 has:Has wr w.heap.size ((ss.length+2)*19)
 froz:∀ o,wr.frozen? ⟨w.heap.size,o,none⟩=false
 parts:Chain (SPart wr w.heap.size N n) 0 (w.heap.size+1) wr.heap.size (ss.take j)
 marks:∀ k,ss.length≤k→k<j→∃ cs:List Value,cs.length=19∧cs[0]? =some (.int .i64 (-7-(k:Nat)))∧Cells wr w.heap.size (k*19) cs
theorem SRel.start {w:World} {N n:Nat} {ss:List ST} {C:Array Value} {T:TypeId} (hC:C.size=(ss.length+2)*19):SRel w.heap.size w (w.alloc (.cells C T)) N n 0 ss:=by
 obtain ⟨h1,h2,h3⟩:=one_block (w:=w) (o:= .cells C T) rfl
 refine ⟨h3,by omega,Nat.le_refl _,h3,fun j hj=>?_,fun o=>World.frozen?_alloc_new _ _ _ _,?_,fun k _ hk=>by omega⟩
 ·rw [World.cell?_alloc_new]
  exact ⟨_,Array.getElem?_eq_getElem (by omega)⟩
 ·exact h2.symm
theorem SRel.mark {b0:Nat} {w wr:World} {N n j:Nat} {ss:List ST} {cs:List Value} (h:SRel b0 w wr N n j ss) (hj:ss.length≤j) (hj3:j<ss.length+2) (hl:cs.length=19) (h0:cs[0]? =some (.int .i64 (-7-(j:Nat)))):SRel b0 w (wr.setCells w.heap.size (j*19) cs) N n (j+1) ss:=by
 have hz:=setCells_size wr w.heap.size cs (j*19) wr
 refine ⟨setCells_below h.ge _ _ _ h.below,by rw [hz];exact h.lt,h.ge,setCells_below (Nat.le_refl _) _ _ _ h.keep,h.has.setCells (by omega),fun o=>(World.frozen?_setCells _ _ _ _ _).trans (h.froz o),?_,fun k hk hk'=>?_⟩
 ·rw [List.take_of_length_le (by omega)]
  have hp:=h.parts
  rw [List.take_of_length_le (by omega)] at hp
  rw [hz]
  exact sparts_keep hp (fun o ho ho'=>World.cell?_setCells_out _ _ _ _ _ (fun _ _=> .inl (by show o<j*19;omega))) (setCells_apart (Nat.le_refl _) (Nat.lt_succ_self _) _ _ _ (Apart.refl _ _ _)) (Nat.le_refl _) (Nat.le_refl _)
 ·by_cases e:k=j
  ·subst e;exact ⟨cs,hl,h0,h.has.setC (by omega)⟩
  ·obtain ⟨cs',c1,c2,c3⟩:=h.marks k hk (by omega)
   exact ⟨cs',c1,c2,c3.keep (fun i hi=>World.cell?_setCells_out _ _ _ _ _ (fun _ _=> .inl (by show k*19+i<j*19;omega)))⟩
theorem SRel.part {b0:Nat} {w wr w2:World} {N n j:Nat} {ss:List ST} {s:ST} {il al lv:Value} {m1 m2:Nat} {cs:List Value} (h:SRel b0 w wr N n j ss) (hs:ss[j]? =some s) (hf:s.Fine) (hl:cs.length=19)
 (hb:Below (wr.setCells w.heap.size (j*19) cs).heap.size (wr.setCells w.heap.size (j*19) cs) w2)
 (e4:LentAt w2 N (wr.setCells w.heap.size (j*19) cs).heap.size m1 il s.info.list) (e5:LentAt w2 N m1 m2 al s.ann.list) (e6:SLent w2 N n m2 w2.heap.size lv s.inner):
 SRel b0 w (w2.setCells w.heap.size (j*19) (s.cells il al lv)) N n (j+1) ss:=by
 have hj:j<ss.length:=(List.getElem?_eq_some_iff.1 hs).1
 have hlt:=h.lt
 have hge:=h.ge
 have hz1:=setCells_size wr w.heap.size cs (j*19) wr
 have hz2:=setCells_size w2 w.heap.size (s.cells il al lv) (j*19) w2
 have hs2:=hb.size
 rw [hz1] at hb e4 hs2
 have l1:=e4.le
 have l2:=e5.le
 have l3:=e6.le
 have has2:Has w2 w.heap.size ((ss.length+2)*19):=(h.has.setCells (o:=j*19) (vs:=cs) (by omega)).below hb hlt
 have ha0:Apart w.heap.size (w.heap.size+1) w2 (w2.setCells w.heap.size (j*19) (s.cells il al lv)):=setCells_apart (Nat.le_refl _) (Nat.lt_succ_self _) _ _ _ (Apart.refl _ _ _)
 refine ⟨setCells_below hge _ _ _ ((setCells_below hge _ _ _ h.below).trans (hb.mono (by omega))),by rw [hz2];omega,hge,setCells_below (Nat.le_refl _) _ _ _ ((setCells_below (Nat.le_refl _) _ _ _ h.keep).trans (hb.mono (by omega))),has2.setCells (by rw [scells_len];omega),fun o=>(World.frozen?_setCells _ _ _ _ _).trans ((hb.frozen (p:=⟨_,o,none⟩) hlt).trans ((World.frozen?_setCells _ _ _ _ _).trans (h.froz o))),?_,fun k hk hk'=>by omega⟩
 rw [take_snoc hs,hz2]
 refine Chain.snoc (mid:=wr.heap.size) ?_ ?_
 ·have ha:Apart w.heap.size (w.heap.size+1) wr (w2.setCells w.heap.size (j*19) (s.cells il al lv)):=
   ((setCells_apart (Nat.le_refl _) (Nat.lt_succ_self _) cs (j*19) wr (Apart.refl _ _ _)).trans (Apart.of_below hb (by rw [hz1];exact Nat.le_refl _))).trans ha0
  refine sparts_keep h.parts (fun o ho ho'=>?_) ha (Nat.le_refl _) (Nat.le_refl _)
  rw [take_len (by omega)] at ho'
  rw [World.cell?_setCells_out _ _ _ _ _ (fun _ _=> .inl (by show o<j*19;omega)),hb.cell (p:=⟨w.heap.size,o,none⟩) hlt,World.cell?_setCells_out _ _ _ _ _ (fun _ _=> .inl (by show o<j*19;omega))]
 ·rw [take_len (by omega),Nat.zero_add]
  refine ⟨by omega,hf,il,al,lv,m1,m2,has2.setC (by rw [scells_len];omega),e4.apart ha0 (by omega) (.inr (by omega)),e5.apart ha0 (by omega) (.inr (by omega)),e6.apart ha0 (by omega) (.inr (by omega))⟩
theorem SRel.done {b0:Nat} {w wr:World} {N n:Nat} {ss:List ST} (h:SRel b0 w wr N n (ss.length+2) ss) (hl:ss.length≤10000):SLent wr N (n+1) w.heap.size wr.heap.size (.slice (some ⟨w.heap.size,0,none⟩) ss.length (ss.length+2)) ss:=by
 have hp:=h.parts
 rw [List.take_of_length_le (by omega)] at hp
 exact ⟨w.heap.size,w.heap.size+1,rfl,Nat.le_refl _,Nat.lt_succ_self _,hl,h.froz,fun k hk=>h.marks _ (by omega) (by omega),hp⟩
structure KRel (w wr:World) (N n b lo hi j:Nat) (ss:List ST):Prop where
 apart:Apart lo hi w wr
 has:Has wr b ((ss.length+2)*19)
 froz:∀ o,wr.frozen? ⟨b,o,none⟩=false
 parts:∃ mid,b<mid∧Chain (SPart wr b N n) j mid hi (ss.drop j)
 marks:∀ k,ss.length≤k→k<ss.length+2→j≤k→∃ cs:List Value,cs.length=19∧cs[0]? =some (.int .i64 (-7-(k:Nat)))∧Cells wr b (k*19) cs
theorem has_of_cells {w:World} {b m:Nat} (h:∀ k,k<m→∃ cs:List Value,cs.length=19∧Cells w b (k*19) cs):Has w b (m*19):=fun j hj=>by
 obtain ⟨cs,h1,h2⟩:=h (j/19) (by omega)
 have hlt:j%19<cs.length:=by omega
 have:=h2 (j%19) _ (List.getElem?_eq_getElem hlt)
 rw [show j/19*19+j%19=j by omega] at this
 exact ⟨_,this⟩
theorem slent_open {w:World} {N n lo hi:Nat} {v:Value} {ss:List ST} (h:SLent w N (n+1) lo hi v ss):∃ b,v= .slice (some ⟨b,0,none⟩) ss.length (ss.length+2)∧lo≤b∧b<hi∧ss.length≤10000∧KRel w w N n b lo hi 0 ss:=by
 obtain ⟨b,m,hv,h1,h2,h3,h4,h5,hc⟩:=h
 have hm:=(hc.imp (fun i l h t h=>h.1) fun _ _ _ _ _ _ h=>h).2
 have hmk:∀ k,ss.length≤k→k<ss.length+2→∃ cs:List Value,cs.length=19∧cs[0]? =some (.int .i64 (-7-(k:Nat)))∧Cells w b (k*19) cs:=fun k hk hk'=>by
  have:=h5 (k-ss.length) (by omega)
  rwa [show ss.length+(k-ss.length)=k by omega] at this
 refine ⟨b,hv,h1,by omega,h3,Apart.refl _ _ _,has_of_cells fun k hk=>?_,h4,⟨m,h2,hc⟩,fun k hk hk' _=>hmk k hk hk'⟩
 by_cases hkl:k<ss.length
 ·obtain ⟨x,y,_,_,_,_,il,al,lv,m1,m2,e,_⟩:=hc.at_ (fun i l h t h=>h.1) (k:=k) (List.getElem?_eq_getElem hkl)
  rw [Nat.zero_add] at e
  exact ⟨_,scells_len _ _ _ _,e⟩
 ·obtain ⟨cs,c1,_,c3⟩:=hmk k (by omega) hk
  exact ⟨cs,c1,c3⟩
theorem KRel.head {w wr:World} {N n b lo hi j:Nat} {ss:List ST} {t:ST} (h:KRel w wr N n b lo hi j ss) (ht:ss[j]? =some t) (hlo:lo≤b) (hbs:hi≤w.heap.size):
 ∃ x y il al lv m1 m2,b<x∧y≤hi∧t.Fine∧Cells wr b (j*19) (t.cells il al lv)∧LentAt wr N x m1 il t.info.list∧LentAt wr N m1 m2 al t.ann.list∧SLent wr N n m2 y lv t.inner∧
   ∀ w2,Apart x y wr w2→∀ cs:List Value,cs.length=19→KRel w (w2.setCells b (j*19) cs) N n b lo hi (j+1) ss:=by
 obtain ⟨mid,hm,hc⟩:=h.parts
 have hj:j<ss.length:=(List.getElem?_eq_some_iff.1 ht).1
 rw [drop_cons_at ht] at hc
 obtain ⟨y,⟨h1,hf,il,al,lv,m1,m2,ha,hl1,hl2,hl3⟩,hc2⟩:=hc
 have hy:=(hc2.imp (fun i l h t h=>h.1) fun _ _ _ _ _ _ h=>h).2
 have hs:=h.apart.size
 have l1:=hl1.le
 have l2:=hl2.le
 have l3:=hl3.le
 have hb:b<wr.heap.size:=by omega
 refine ⟨mid,y,il,al,lv,m1,m2,hm,hy,hf,ha,hl1,hl2,hl3,fun w2 ha2 cs hcs=>?_⟩
 have hs2:=ha2.size
 have c2:∀ o,w2.cell? ⟨b,o,none⟩=wr.cell? ⟨b,o,none⟩:=fun o=>ha2.cell (p:=⟨b,o,none⟩) hb (.inl hm)
 have has2:Has w2 b ((ss.length+2)*19):=h.has.apart ha2 hb (.inl hm)
 have ha3:Apart b (b+1) w2 (w2.setCells b (j*19) cs):=setCells_apart (Nat.le_refl _) (Nat.lt_succ_self _) _ _ _ (Apart.refl _ _ _)
 refine ⟨(h.apart.trans (ha2.wide (by omega) hy)).trans (ha3.wide hlo (by omega)),has2.setCells (by omega),fun o=>(World.frozen?_setCells _ _ _ _ _).trans ((ha2.frozen (p:=⟨b,o,none⟩) hb (.inl hm)).trans (h.froz o)),⟨y,by omega,?_⟩,fun k hk hk' hjk=>?_⟩
 ·have h2:Chain (SPart w2 b N n) (j+1) y hi (ss.drop (j+1)):=(hc2.imp (fun i l h t h=>h.1) (by
   rintro i x1 x2 t' hx1 hx2 ⟨p1,p2,il2,al2,lv2,q1,q2,p3,p4,p5,p6⟩
   have e1:=p4.le
   have e2:=p5.le
   have e3:=p6.le
   exact ⟨p1,p2,il2,al2,lv2,q1,q2,p3.keep (fun k _=>c2 _),p4.apart ha2 (by omega) (.inr (by omega)),p5.apart ha2 (by omega) (.inr (by omega)),p6.apart ha2 (by omega) (.inr (by omega))⟩)).1
  exact sparts_keep h2 (fun o ho _=>World.cell?_setCells_out _ _ _ _ _ (fun _ _=> .inr (by show j*19+cs.length≤o;omega))) ha3 (by omega) (by omega)
 ·obtain ⟨ds,d1,d2,d3⟩:=h.marks k hk hk' (by omega)
  exact ⟨ds,d1,d2,d3.keep (fun i hi=>(World.cell?_setCells_out _ _ _ _ _ (fun _ _=> .inr (by show j*19+cs.length≤k*19+i;omega))).trans (c2 _))⟩
theorem KRel.mark {w wr:World} {N n b lo hi j:Nat} {ss:List ST} {cs:List Value} (h:KRel w wr N n b lo hi j ss) (hj:ss.length≤j) (hj3:j<ss.length+2) (hlo:lo≤b) (hbh:b<hi) (hcs:cs.length=19):KRel w (wr.setCells b (j*19) cs) N n b lo hi (j+1) ss:=by
 obtain ⟨mid,hm,hc⟩:=h.parts
 rw [List.drop_eq_nil_of_le hj] at hc
 have ha3:Apart b (b+1) wr (wr.setCells b (j*19) cs):=setCells_apart (Nat.le_refl _) (Nat.lt_succ_self _) _ _ _ (Apart.refl _ _ _)
 refine ⟨h.apart.trans (ha3.wide hlo (by omega)),h.has.setCells (by omega),fun o=>(World.frozen?_setCells _ _ _ _ _).trans (h.froz o),⟨mid,hm,by rw [List.drop_eq_nil_of_le (by omega)];exact hc⟩,fun k hk hk' hjk=>?_⟩
 obtain ⟨ds,d1,d2,d3⟩:=h.marks k hk hk' (by omega)
 exact ⟨ds,d1,d2,d3.keep (fun i hi=>World.cell?_setCells_out _ _ _ _ _ (fun _ _=> .inr (by show j*19+cs.length≤k*19+i;omega)))⟩
def oddC:List Value:=[.int .i64 (-7),.int .i64 0,.int .i64 0,.string ⟨#[]⟩,.string ⟨#[]⟩,.int .i64 0,.int .u64 0,.string ⟨#[]⟩,.slice none 0 0,.int .i64 0,.bool false,.bool false,.int .i64 0,.int .u64 0,.string ⟨#[]⟩,.slice none 0 0,.int .i64 0,.string ⟨#[]⟩,.slice none 0 0]
def SLent3 (w:World) (N:Nat):Nat→Nat→Nat→Value→List ST→Prop
 |0,_,_,_,_=>False
 |n+1,lo,hi,v,ss=>∃ b m,v= .slice (some ⟨b,0,none⟩) ss.length (ss.length+3)∧lo≤b∧b<m∧ss.length≤10000∧
   (∀ j,w.frozen? ⟨b,j,none⟩=false)∧(∀ k,k<3→∃ cs:List Value,cs.length=19∧cs=oddC∧Cells w b ((ss.length+k)*19) cs)∧
   Chain (fun i l h s=>l≤h∧s.Fine∧∃ il al lv m1 m2,Cells w b (i*19) (s.cells il al lv)∧LentAt w N l m1 il s.info.list∧LentAt w N m1 m2 al s.ann.list∧SLent3 w N n m2 h lv s.inner) 0 m hi ss
theorem SLent3.le {w:World} {N:Nat}:∀ {n lo hi:Nat} {v:Value} {ss:List ST},SLent3 w N n lo hi v ss→lo<hi
 |0,_,_,_,_,h=>h.elim
 |n+1,lo,hi,v,ss,⟨b,m,_,h1,h2,_,_,_,hc⟩=>by
  have:=(hc.imp (fun i l h t h=>h.1) fun _ _ _ _ _ _ h=>h).2
  omega
theorem SLent3.apart {x y:Nat} {w w':World} {N:Nat} (ha:Apart x y w w'):∀ {n lo hi:Nat} {v:Value} {ss:List ST},SLent3 w N n lo hi v ss→hi≤w.heap.size→hi≤x∨y≤lo→SLent3 w' N n lo hi v ss
 |0,_,_,_,_,h,_,_=>h.elim
 |n+1,lo,hi,v,ss,⟨b,m,hv,h1,h2,h3,h4,h5,hc⟩,hs,ho=>by
  have hm:=(hc.imp (fun i l h t h=>h.1) fun _ _ _ _ _ _ h=>h).2
  have hb:b<w.heap.size:=by omega
  have hbo:b<x∨y≤b:=by omega
  refine ⟨b,m,hv,h1,h2,h3,fun j=>(ha.frozen (p:=⟨b,j,none⟩) hb hbo).trans (h4 j),fun k hk=>?_,(hc.imp (fun i l h t h=>h.1) ?_).1⟩
  ·obtain ⟨cs,c1,c2,c3⟩:=h5 k hk
   exact ⟨cs,c1,c2,c3.apart ha hb hbo⟩
  ·rintro i l h t hl hh ⟨e1,e2,il,al,lv,m1,m2,e3,e4,e5,e6⟩
   have l1:=e4.le
   have l2:=e5.le
   have l3:=e6.le
   exact ⟨e1,e2,il,al,lv,m1,m2,e3.apart ha hb hbo,e4.apart ha (by omega) (by omega),e5.apart ha (by omega) (by omega),SLent3.apart ha e6 (by omega) (by omega)⟩
theorem SLent3.below {w w':World} {N n lo hi:Nat} {v:Value} {ss:List ST} (h:SLent3 w N n lo hi v ss) (hs:hi≤w.heap.size) (hb:Below w.heap.size w w'):SLent3 w' N n lo hi v ss:=
 h.apart (x:=hi) (y:=hi) (Apart.of_below hb (Nat.le_refl _)) hs (.inl (Nat.le_refl _))
theorem SLent3.sat {w:World} {B N:Nat}:∀ {n lo hi:Nat} {v:Value} {ss:List ST},SLent3 w N n lo hi v ss→hi≤B→SAt B N w n v ss
 |0,_,_,_,_,h,_=>h.elim
 |n+1,lo,hi,v,ss,⟨b,m,hv,h1,h2,h3,h4,h5,hc⟩,hB=>by
  have hm:=(hc.imp (fun i l h t h=>h.1) fun _ _ _ _ _ _ h=>h).2
  refine .inr ⟨b,0,ss.length+3,hv,by omega,Nat.le_trans h3 (by decide),fun i t ht=>?_⟩
  obtain ⟨l,h,_,hh,_,e2,il,al,lv,m1,m2,e3,e4,e5,e6⟩:=hc.at_ (fun i l h t h=>h.1) ht
  rw [Nat.zero_add] at e3 ⊢
  have l1:=e4.le
  have l2:=e5.le
  have l3:=e6.le
  exact ⟨e2,il,al,lv,e3,e4.lat (by omega),e5.lat (by omega),SLent3.sat e6 (by omega)⟩
def SLentV3 (w:World) (N n lo hi:Nat) (v:Value) (s:ST):Prop:=s.Fine∧∃ il al lv m1 m2,v=s.agg il al lv∧LentAt w N lo m1 il s.info.list∧LentAt w N m1 m2 al s.ann.list∧SLent3 w N n m2 hi lv s.inner
theorem SLentV3.le {w:World} {N n lo hi:Nat} {v:Value} {s:ST} (h:SLentV3 w N n lo hi v s):lo<hi:=by
 obtain ⟨_,_,_,_,_,_,_,h1,h2,h3⟩:=h
 have:=h1.le
 have:=h2.le
 have:=h3.le
 omega
theorem SLentV3.apart {x y:Nat} {w w':World} {N n lo hi:Nat} {v:Value} {s:ST} (h:SLentV3 w N n lo hi v s) (ha:Apart x y w w') (hs:hi≤w.heap.size) (ho:hi≤x∨y≤lo):SLentV3 w' N n lo hi v s:=by
 obtain ⟨hf,il,al,lv,m1,m2,hv,h1,h2,h3⟩:=h
 have:=h1.le
 have:=h2.le
 have:=h3.le
 exact ⟨hf,il,al,lv,m1,m2,hv,h1.apart ha (by omega) (by omega),h2.apart ha (by omega) (by omega),h3.apart ha (by omega) (by omega)⟩
theorem SLentV3.below {w w':World} {N n lo hi:Nat} {v:Value} {s:ST} (h:SLentV3 w N n lo hi v s) (hs:hi≤w.heap.size) (hb:Below w.heap.size w w'):SLentV3 w' N n lo hi v s:=
 h.apart (x:=hi) (y:=hi) (Apart.of_below hb (Nat.le_refl _)) hs (.inl (Nat.le_refl _))
theorem SLentV3.svat {w:World} {B N n lo hi:Nat} {v:Value} {s:ST} (h:SLentV3 w N n lo hi v s) (hB:hi≤B):SVAt B N w n v s:=by
 obtain ⟨hf,il,al,lv,m1,m2,hv,h1,h2,h3⟩:=h
 have:=h1.le
 have:=h2.le
 have:=h3.le
 exact ⟨hf,il,al,lv,hv,h1.lat (by omega),h2.lat (by omega),h3.sat hB⟩
def SPart3 (w:World) (b N n:Nat) (i l h:Nat) (s:ST):Prop:=l≤h∧s.Fine∧∃ il al lv m1 m2,Cells w b (i*19) (s.cells il al lv)∧LentAt w N l m1 il s.info.list∧LentAt w N m1 m2 al s.ann.list∧SLent3 w N n m2 h lv s.inner
theorem sparts_keep3 {w w':World} {b N n i m hi x:Nat} {ts:List ST} (h:Chain (SPart3 w b N n) i m hi ts) (hc:∀ j,i*19≤j→j<(i+ts.length)*19→w'.cell? ⟨b,j,none⟩=w.cell? ⟨b,j,none⟩) (ha:Apart b x w w') (hhi:hi≤w.heap.size) (hx:x≤m):Chain (SPart3 w' b N n) i m hi ts:=
 (h.imp' (fun _ _ _ _ p=>p.1) (by
   rintro j l h t hj hj' hl hh ⟨e1,e2,il,al,lv,m1,m2,e3,e4,e5,e6⟩
   have l1:=e4.le
   have l2:=e5.le
   have l3:=e6.le
   exact ⟨e1,e2,il,al,lv,m1,m2,e3.keep (fun k hk=>hc _ (by omega) (by rw [scells_len] at hk;omega)),e4.apart ha (by omega) (by omega),e5.apart ha (by omega) (by omega),e6.apart ha (by omega) (by omega)⟩)).1
structure KRel3 (w wr:World) (N n b lo hi j:Nat) (ss:List ST):Prop where
 apart:Apart lo hi w wr
 has:Has wr b ((ss.length+3)*19)
 froz:∀ o,wr.frozen? ⟨b,o,none⟩=false
 parts:∃ mid,b<mid∧Chain (SPart3 wr b N n) j mid hi (ss.drop j)
 marks:∀ k,ss.length≤k→k<ss.length+3→j≤k→∃ cs:List Value,cs.length=19∧cs=oddC∧Cells wr b (k*19) cs
theorem slent_open3 {w:World} {N n lo hi:Nat} {v:Value} {ss:List ST} (h:SLent3 w N (n+1) lo hi v ss):∃ b,v= .slice (some ⟨b,0,none⟩) ss.length (ss.length+3)∧lo≤b∧b<hi∧ss.length≤10000∧KRel3 w w N n b lo hi 0 ss:=by
 obtain ⟨b,m,hv,h1,h2,h3,h4,h5,hc⟩:=h
 have hm:=(hc.imp (fun i l h t h=>h.1) fun _ _ _ _ _ _ h=>h).2
 have hmk:∀ k,ss.length≤k→k<ss.length+3→∃ cs:List Value,cs.length=19∧cs=oddC∧Cells w b (k*19) cs:=fun k hk hk'=>by
  have:=h5 (k-ss.length) (by omega)
  rwa [show ss.length+(k-ss.length)=k by omega] at this
 refine ⟨b,hv,h1,by omega,h3,Apart.refl _ _ _,has_of_cells fun k hk=>?_,h4,⟨m,h2,hc⟩,fun k hk hk' _=>hmk k hk hk'⟩
 by_cases hkl:k<ss.length
 ·obtain ⟨x,y,_,_,_,_,il,al,lv,m1,m2,e,_⟩:=hc.at_ (fun i l h t h=>h.1) (k:=k) (List.getElem?_eq_getElem hkl)
  rw [Nat.zero_add] at e
  exact ⟨_,scells_len _ _ _ _,e⟩
 ·obtain ⟨cs,c1,_,c3⟩:=hmk k (by omega) hk
  exact ⟨cs,c1,c3⟩
theorem KRel3.head {w wr:World} {N n b lo hi j:Nat} {ss:List ST} {t:ST} (h:KRel3 w wr N n b lo hi j ss) (ht:ss[j]? =some t) (hlo:lo≤b) (hbs:hi≤w.heap.size):
 ∃ x y il al lv m1 m2,b<x∧y≤hi∧t.Fine∧Cells wr b (j*19) (t.cells il al lv)∧LentAt wr N x m1 il t.info.list∧LentAt wr N m1 m2 al t.ann.list∧SLent3 wr N n m2 y lv t.inner∧
   ∀ w2,Apart x y wr w2→∀ cs:List Value,cs.length=19→KRel3 w (w2.setCells b (j*19) cs) N n b lo hi (j+1) ss:=by
 obtain ⟨mid,hm,hc⟩:=h.parts
 have hj:j<ss.length:=(List.getElem?_eq_some_iff.1 ht).1
 rw [drop_cons_at ht] at hc
 obtain ⟨y,⟨h1,hf,il,al,lv,m1,m2,ha,hl1,hl2,hl3⟩,hc2⟩:=hc
 have hy:=(hc2.imp (fun i l h t h=>h.1) fun _ _ _ _ _ _ h=>h).2
 have hs:=h.apart.size
 have l1:=hl1.le
 have l2:=hl2.le
 have l3:=hl3.le
 have hb:b<wr.heap.size:=by omega
 refine ⟨mid,y,il,al,lv,m1,m2,hm,hy,hf,ha,hl1,hl2,hl3,fun w2 ha2 cs hcs=>?_⟩
 have hs2:=ha2.size
 have c2:∀ o,w2.cell? ⟨b,o,none⟩=wr.cell? ⟨b,o,none⟩:=fun o=>ha2.cell (p:=⟨b,o,none⟩) hb (.inl hm)
 have has2:Has w2 b ((ss.length+3)*19):=h.has.apart ha2 hb (.inl hm)
 have ha3:Apart b (b+1) w2 (w2.setCells b (j*19) cs):=setCells_apart (Nat.le_refl _) (Nat.lt_succ_self _) _ _ _ (Apart.refl _ _ _)
 refine ⟨(h.apart.trans (ha2.wide (by omega) hy)).trans (ha3.wide hlo (by omega)),has2.setCells (by omega),fun o=>(World.frozen?_setCells _ _ _ _ _).trans ((ha2.frozen (p:=⟨b,o,none⟩) hb (.inl hm)).trans (h.froz o)),⟨y,by omega,?_⟩,fun k hk hk' hjk=>?_⟩
 ·have h2:Chain (SPart3 w2 b N n) (j+1) y hi (ss.drop (j+1)):=(hc2.imp (fun i l h t h=>h.1) (by
   rintro i x1 x2 t' hx1 hx2 ⟨p1,p2,il2,al2,lv2,q1,q2,p3,p4,p5,p6⟩
   have e1:=p4.le
   have e2:=p5.le
   have e3:=p6.le
   exact ⟨p1,p2,il2,al2,lv2,q1,q2,p3.keep (fun k _=>c2 _),p4.apart ha2 (by omega) (.inr (by omega)),p5.apart ha2 (by omega) (.inr (by omega)),p6.apart ha2 (by omega) (.inr (by omega))⟩)).1
  exact sparts_keep3 h2 (fun o ho _=>World.cell?_setCells_out _ _ _ _ _ (fun _ _=> .inr (by show j*19+cs.length≤o;omega))) ha3 (by omega) (by omega)
 ·obtain ⟨ds,d1,d2,d3⟩:=h.marks k hk hk' (by omega)
  exact ⟨ds,d1,d2,d3.keep (fun i hi=>(World.cell?_setCells_out _ _ _ _ _ (fun _ _=> .inr (by show j*19+cs.length≤k*19+i;omega))).trans (c2 _))⟩
theorem KRel3.mark {w wr:World} {N n b lo hi j:Nat} {ss:List ST} {cs:List Value} (h:KRel3 w wr N n b lo hi j ss) (hj:ss.length≤j) (hj3:j<ss.length+3) (hlo:lo≤b) (hbh:b<hi) (hcs:cs.length=19):KRel3 w (wr.setCells b (j*19) cs) N n b lo hi (j+1) ss:=by
 obtain ⟨mid,hm,hc⟩:=h.parts
 rw [List.drop_eq_nil_of_le hj] at hc
 have ha3:Apart b (b+1) wr (wr.setCells b (j*19) cs):=setCells_apart (Nat.le_refl _) (Nat.lt_succ_self _) _ _ _ (Apart.refl _ _ _)
 refine ⟨h.apart.trans (ha3.wide hlo (by omega)),h.has.setCells (by omega),fun o=>(World.frozen?_setCells _ _ _ _ _).trans (h.froz o),⟨mid,hm,by rw [List.drop_eq_nil_of_le (by omega)];exact hc⟩,fun k hk hk' hjk=>?_⟩
 obtain ⟨ds,d1,d2,d3⟩:=h.marks k hk hk' (by omega)
 exact ⟨ds,d1,d2,d3.keep (fun i hi=>World.cell?_setCells_out _ _ _ _ _ (fun _ _=> .inr (by show j*19+cs.length≤k*19+i;omega)))⟩
theorem sat_up {B B' N:Nat} {w:World} (hB:B≤B'):∀ {n:Nat} {v:Value} {ss:List ST},SAt B N w n v ss→SAt B' N w n v ss
 |0,_,_,h=>h
 |n+1,v,ss,h=>by
  rcases h with h|⟨b,off,c,h1,h2,h3,h4⟩
  ·exact .inl h
  ·exact .inr ⟨b,off,c,h1,by omega,h3,fun i t ht=>let ⟨hf,il,al,lv,hc,hi,ha,hl⟩:=h4 i t ht;⟨hf,il,al,lv,hc,hi.up hB,ha.up hB,sat_up hB hl⟩⟩
theorem chain_hi {E:Nat→Nat→Nat→ST→Prop} (hE:∀ i l h h' t,E i l h t→h≤h'→E i l h' t):∀ {ss:List ST} {i lo hi hi':Nat},ss≠[]→Chain E i lo hi ss→hi≤hi'→Chain E i lo hi' ss
 |[],_,_,_,_,h,_,_=>absurd rfl h
 |[a],i,lo,hi,hi',_,⟨m,h1,h2⟩,hh=>by
  have h2:m=hi:=h2
  subst h2
  exact ⟨hi',hE _ _ _ _ _ h1 hh,rfl⟩
 |a::b::ss,i,lo,hi,hi',_,⟨m,h1,h2⟩,hh=>⟨m,h1,chain_hi hE (by simp) h2 hh⟩
theorem SLent3.hi {w:World} {N:Nat}:∀ {n lo hi hi':Nat} {v:Value} {ss:List ST},SLent3 w N n lo hi v ss→hi≤hi'→SLent3 w N n lo hi' v ss
 |0,_,_,_,_,_,h,_=>h.elim
 |n+1,lo,hi,hi',v,ss,⟨b,m,hv,h1,h2,h3,h4,h5,hc⟩,hh=>by
  have hm:=(hc.imp (fun i l h t h=>h.1) fun _ _ _ _ _ _ h=>h).2
  cases ss with
  |nil=>exact ⟨b,hi',hv,h1,by omega,h3,h4,h5,rfl⟩
  |cons a r=>exact ⟨b,m,hv,h1,h2,h3,h4,h5,chain_hi (fun i l h h' t ⟨e1,e2,il,al,lv,m1,m2,e3,e4,e5,e6⟩ hh=>⟨by omega,e2,il,al,lv,m1,m2,e3,e4,e5,SLent3.hi e6 hh⟩) (by simp) hc hh⟩
structure SRel3 (b0:Nat) (w wr:World) (N n j:Nat) (ss:List ST):Prop where
 below:Below b0 w wr
 lt:w.heap.size<wr.heap.size
 ge:b0≤w.heap.size
 keep:Below w.heap.size w wr
 has:Has wr w.heap.size ((ss.length+3)*19)
 froz:∀ o,wr.frozen? ⟨w.heap.size,o,none⟩=false
 parts:∃ h,w.heap.size<h∧h≤wr.heap.size∧Chain (SPart3 wr w.heap.size N n) 0 (w.heap.size+1) h (ss.take j)
 marks:∀ k,ss.length≤k→k<j→∃ cs:List Value,cs.length=19∧cs=oddC∧Cells wr w.heap.size (k*19) cs
theorem SRel3.start {w:World} {N n:Nat} {ss:List ST} {C:Array Value} {T:TypeId} (hC:C.size=(ss.length+3)*19):SRel3 w.heap.size w (w.alloc (.cells C T)) N n 0 ss:=by
 obtain ⟨h1,h2,h3⟩:=one_block (w:=w) (o:= .cells C T) rfl
 refine ⟨h3,by omega,Nat.le_refl _,h3,fun j hj=>?_,fun o=>World.frozen?_alloc_new _ _ _ _,⟨w.heap.size+1,by omega,by omega,rfl⟩,fun k _ hk=>by omega⟩
 rw [World.cell?_alloc_new]
 exact ⟨_,Array.getElem?_eq_getElem (by omega)⟩
theorem SRel3.grow {b0:Nat} {w wr w2:World} {N n j:Nat} {ss:List ST} (h:SRel3 b0 w wr N n j ss) (hb:Below wr.heap.size wr w2):SRel3 b0 w w2 N n j ss:=by
 have hs:=hb.size
 have hlt:=h.lt
 have hge:=h.ge
 obtain ⟨h1,h2,h3,hc⟩:=h.parts
 refine ⟨h.below.trans (hb.mono (by omega)),by omega,h.ge,h.keep.trans (hb.mono (by omega)),h.has.below hb hlt,fun o=>(hb.frozen (p:=⟨_,o,none⟩) hlt).trans (h.froz o),⟨h1,h2,by omega,sparts_keep3 hc (fun j _ _=>hb.cell (p:=⟨_,j,none⟩) hlt) (Apart.of_below (lo:=w.heap.size) (hi:=w.heap.size+1) (hb.mono (Nat.le_refl _)) (by omega)) h3 (Nat.le_refl _)⟩,fun k hk hk'=>?_⟩
 obtain ⟨cs,c1,c2,c3⟩:=h.marks k hk hk'
 exact ⟨cs,c1,c2,c3.below hb hlt⟩
theorem SRel3.mark {b0:Nat} {w wr:World} {N n j:Nat} {ss:List ST} {cs:List Value} (h:SRel3 b0 w wr N n j ss) (hj:ss.length≤j) (hj3:j<ss.length+3) (hl:cs.length=19) (h0:cs=oddC):SRel3 b0 w (wr.setCells w.heap.size (j*19) cs) N n (j+1) ss:=by
 have hz:=setCells_size wr w.heap.size cs (j*19) wr
 refine ⟨setCells_below h.ge _ _ _ h.below,by rw [hz];exact h.lt,h.ge,setCells_below (Nat.le_refl _) _ _ _ h.keep,h.has.setCells (by omega),fun o=>(World.frozen?_setCells _ _ _ _ _).trans (h.froz o),?_,fun k hk hk'=>?_⟩
 ·obtain ⟨h1,h2,h3,hp⟩:=h.parts
  rw [List.take_of_length_le (by omega)] at hp ⊢
  rw [hz]
  exact ⟨h1,h2,h3,sparts_keep3 hp (fun o ho ho'=>World.cell?_setCells_out _ _ _ _ _ (fun _ _=> .inl (by show o<j*19;omega))) (setCells_apart (Nat.le_refl _) (Nat.lt_succ_self _) _ _ _ (Apart.refl _ _ _)) h3 (Nat.le_refl _)⟩
 ·by_cases e:k=j
  ·subst e;exact ⟨cs,hl,h0,h.has.setC (by omega)⟩
  ·obtain ⟨cs',c1,c2,c3⟩:=h.marks k hk (by omega)
   exact ⟨cs',c1,c2,c3.keep (fun i hi=>World.cell?_setCells_out _ _ _ _ _ (fun _ _=> .inl (by show k*19+i<j*19;omega)))⟩
theorem SRel3.over {b0:Nat} {w wr:World} {N n j:Nat} {ss:List ST} {cs:List Value} (h:SRel3 b0 w wr N n j ss) (_hj:j<ss.length+3) (hl:cs.length=19) (hm:j<ss.length):SRel3 b0 w (wr.setCells w.heap.size (j*19) cs) N n j ss:=by
 have hz:=setCells_size wr w.heap.size cs (j*19) wr
 refine ⟨setCells_below h.ge _ _ _ h.below,by rw [hz];exact h.lt,h.ge,setCells_below (Nat.le_refl _) _ _ _ h.keep,h.has.setCells (by omega),fun o=>(World.frozen?_setCells _ _ _ _ _).trans (h.froz o),?_,fun k hk hk'=>by omega⟩
 obtain ⟨h1,h2,h3,hp⟩:=h.parts
 rw [hz]
 exact ⟨h1,h2,h3,sparts_keep3 hp (fun o ho ho'=>World.cell?_setCells_out _ _ _ _ _ (fun _ _=> .inl (by rw [take_len (by omega)] at ho';show o<j*19;omega))) (setCells_apart (Nat.le_refl _) (Nat.lt_succ_self _) _ _ _ (Apart.refl _ _ _)) h3 (Nat.le_refl _)⟩
theorem SRel3.part {b0:Nat} {w wr w2:World} {N n j:Nat} {ss:List ST} {s:ST} {il al lv:Value} {m1 m2:Nat} (h:SRel3 b0 w wr N n j ss) (hs:ss[j]? =some s) (hf:s.Fine)
 (hb:Below wr.heap.size wr w2)
 (e4:LentAt w2 N wr.heap.size m1 il s.info.list) (e5:LentAt w2 N m1 m2 al s.ann.list) (e6:SLent3 w2 N n m2 w2.heap.size lv s.inner):
 SRel3 b0 w (w2.setCells w.heap.size (j*19) (s.cells il al lv)) N n (j+1) ss:=by
 have hj:j<ss.length:=(List.getElem?_eq_some_iff.1 hs).1
 have hlt:=h.lt
 have hge:=h.ge
 have hz2:=setCells_size w2 w.heap.size (s.cells il al lv) (j*19) w2
 have hs2:=hb.size
 have l1:=e4.le
 have l2:=e5.le
 have l3:=e6.le
 have g:=h.grow hb
 have has2:=g.has
 have ha0:Apart w.heap.size (w.heap.size+1) w2 (w2.setCells w.heap.size (j*19) (s.cells il al lv)):=setCells_apart (Nat.le_refl _) (Nat.lt_succ_self _) _ _ _ (Apart.refl _ _ _)
 refine ⟨setCells_below hge _ _ _ g.below,by rw [hz2];omega,hge,setCells_below (Nat.le_refl _) _ _ _ g.keep,has2.setCells (by rw [scells_len];omega),fun o=>(World.frozen?_setCells _ _ _ _ _).trans (g.froz o),?_,fun k hk hk'=>by omega⟩
 obtain ⟨h1,h2,h3,hp⟩:=h.parts
 obtain ⟨h1',h2',h3',hp'⟩:=g.parts
 rw [take_snoc hs,hz2]
 refine ⟨w2.heap.size,by omega,Nat.le_refl _,Chain.snoc (mid:=h1) ?_ ?_⟩
 ·have hp2:Chain (SPart3 w2 w.heap.size N n) 0 (w.heap.size+1) h1 (ss.take j):=sparts_keep3 hp (fun j _ _=>hb.cell (p:=⟨_,j,none⟩) hlt) (Apart.of_below (lo:=w.heap.size) (hi:=w.heap.size+1) (hb.mono (Nat.le_refl _)) (by omega)) h3 (Nat.le_refl _)
  exact sparts_keep3 hp2 (fun o ho ho'=>World.cell?_setCells_out _ _ _ _ _ (fun _ _=> .inl (by rw [take_len (by omega)] at ho';show o<j*19;omega))) ha0 (by omega) (Nat.le_refl _)
 ·rw [take_len (by omega),Nat.zero_add]
  refine ⟨by omega,hf,il,al,lv,m1,m2,has2.setC (by rw [scells_len];omega),(e4.apart ha0 (by omega) (.inr (by omega))).lo h3,e5.apart ha0 (by omega) (.inr (by omega)),e6.apart ha0 (by omega) (.inr (by omega))⟩
theorem KRel3.grow {w wr w2:World} {N n b lo hi j:Nat} {ss:List ST} (h:KRel3 w wr N n b lo hi j ss) (hlo:b<hi) (hs:hi≤w.heap.size) (hb:Below wr.heap.size wr w2):KRel3 w w2 N n b lo hi j ss:=by
 have hz:=h.apart.size
 have hbw:b<wr.heap.size:=by omega
 obtain ⟨mid,hm,hc⟩:=h.parts
 refine ⟨h.apart.trans (Apart.of_below hb (Nat.le_refl _)),h.has.below hb hbw,fun o=>(hb.frozen (p:=⟨_,o,none⟩) hbw).trans (h.froz o),⟨mid,hm,(hc.imp (fun i l h t h=>h.1) ?_).1⟩,fun k hk hk' hjk=>?_⟩
 ·rintro i l h' t hl hh ⟨e1,e2,il,al,lv,m1,m2,e3,e4,e5,e6⟩
  have l1:=e4.le
  have l2:=e5.le
  have l3:=e6.le
  have ha:Apart wr.heap.size wr.heap.size wr w2:=Apart.of_below hb (Nat.le_refl _)
  exact ⟨e1,e2,il,al,lv,m1,m2,e3.below hb hbw,e4.apart ha (by omega) (.inl (by omega)),e5.apart ha (by omega) (.inl (by omega)),e6.apart ha (by omega) (.inl (by omega))⟩
 ·obtain ⟨cs,c1,c2,c3⟩:=h.marks k hk hk' hjk
  exact ⟨cs,c1,c2,c3.below hb hbw⟩
theorem SRel3.done {b0:Nat} {w wr:World} {N n:Nat} {ss:List ST} (h:SRel3 b0 w wr N n (ss.length+3) ss) (hl:ss.length≤10000):SLent3 wr N (n+1) w.heap.size wr.heap.size (.slice (some ⟨w.heap.size,0,none⟩) ss.length (ss.length+3)) ss:=by
 obtain ⟨h1,h2,h3,hp⟩:=h.parts
 rw [List.take_of_length_le (by omega)] at hp
 have k:SLent3 wr N (n+1) w.heap.size h1 (.slice (some ⟨w.heap.size,0,none⟩) ss.length (ss.length+3)) ss:=⟨w.heap.size,w.heap.size+1,rfl,Nat.le_refl _,Nat.lt_succ_self _,hl,h.froz,fun k hk=>h.marks _ (by omega) (by omega),hp⟩
 exact k.hi h3
def XAt (B:Nat) (w:World) (v:Value) (l:List ByteArray):Prop:=∃ p c,v= .slice p l.length c∧l.length≤maxLen∧∀ i s,l[i]? =some s→∃ b off,p=some ⟨b,off,none⟩∧b<B∧w.cell? ⟨b,off+i,none⟩=some (.string s)
theorem XAt.slice {B:Nat} {w:World} {v:Value} {l:List ByteArray} (h:XAt B w v l):∃ p c,v= .slice p l.length c:=let ⟨p,c,h1,_⟩:=h;⟨p,c,h1⟩
theorem XAt.below {B:Nat} {w w':World} {v:Value} {l:List ByteArray} (h:XAt B w v l) (hb:Below B w w'):XAt B w' v l:=by
 obtain ⟨p,c,h1,h2,h3⟩:=h
 refine ⟨p,c,h1,h2,fun i s hs=>?_⟩
 obtain ⟨b,off,hp,hlt,hc⟩:=h3 i s hs
 exact ⟨b,off,hp,hlt,(hb.cell (p:=⟨b,_,none⟩) hlt).trans hc⟩
theorem XAt.up {B B':Nat} {w:World} {v:Value} {l:List ByteArray} (h:XAt B w v l) (hB:B≤B'):XAt B' w v l:=by
 obtain ⟨p,c,h1,h2,h3⟩:=h
 exact ⟨p,c,h1,h2,fun i s hs=>let ⟨b,off,hp,hlt,hc⟩:=h3 i s hs;⟨b,off,hp,by omega,hc⟩⟩
def behindB:ByteArray:=⟨#[98,101,104,105,110,100]⟩
def spT (l:List ByteArray) (k:Nat):ByteArray:=(l[k]?).getD behindB
theorem spT_at {l:List ByteArray} {k:Nat} {s:ByteArray} (h:l[k]? =some s):spT l k=s:=by unfold spT;rw [h];rfl
theorem spT_out {l:List ByteArray} {k:Nat} (h:l.length≤k):spT l k=behindB:=by unfold spT;rw [List.getElem?_eq_none h];rfl
def XLent (w:World) (lo hi:Nat) (v:Value) (l:List ByteArray):Prop:=∃ b,v= .slice (some ⟨b,0,none⟩) l.length (l.length+3)∧lo≤b∧b<hi∧l.length≤100000∧(∀ o,w.frozen? ⟨b,o,none⟩=false)∧∀ k,k<l.length+3→w.cell? ⟨b,k,none⟩=some (.string (spT l k))
theorem XLent.le {w:World} {lo hi:Nat} {v:Value} {l:List ByteArray} (h:XLent w lo hi v l):lo<hi:=by
 obtain ⟨b,_,h1,h2,_⟩:=h;omega
theorem XLent.form {w:World} {lo hi:Nat} {v:Value} {l:List ByteArray} (h:XLent w lo hi v l):∃ b,v= .slice (some ⟨b,0,none⟩) l.length (l.length+3):=let ⟨b,h1,_⟩:=h;⟨b,h1⟩
theorem XLent.apart {w w':World} {lo hi x y:Nat} {v:Value} {l:List ByteArray} (h:XLent w lo hi v l) (ha:Apart x y w w') (hs:hi≤w.heap.size) (ho:hi≤x∨y≤lo):XLent w' lo hi v l:=by
 obtain ⟨b,h1,h2,h3,h4,h5,h6⟩:=h
 exact ⟨b,h1,h2,h3,h4,fun o=>(ha.frozen (p:=⟨b,o,none⟩) (by show b<_;omega) (by show b<x∨y≤b;omega)).trans (h5 o),fun k hk=>(ha.cell (p:=⟨b,k,none⟩) (by show b<_;omega) (by show b<x∨y≤b;omega)).trans (h6 k hk)⟩
theorem XLent.below {w w':World} {lo hi:Nat} {v:Value} {l:List ByteArray} (h:XLent w lo hi v l) (hs:hi≤w.heap.size) (hb:Below w.heap.size w w'):XLent w' lo hi v l:=h.apart (x:=hi) (y:=hi) (Apart.of_below hb (Nat.le_refl _)) hs (.inl (Nat.le_refl _))
theorem XLent.wide {w:World} {lo lo' hi hi':Nat} {v:Value} {l:List ByteArray} (h:XLent w lo hi v l) (h1:lo'≤lo) (h2:hi≤hi'):XLent w lo' hi' v l:=by
 obtain ⟨b,e1,e2,e3,e4⟩:=h
 exact ⟨b,e1,by omega,by omega,e4⟩
theorem XLent.xat {w:World} {lo hi B:Nat} {v:Value} {l:List ByteArray} (h:XLent w lo hi v l) (hB:hi≤B):XAt B w v l:=by
 obtain ⟨b,h1,h2,h3,h4,h5,h6⟩:=h
 refine ⟨_,_,h1,Nat.le_trans h4 (by decide),fun i s hs=>⟨b,0,rfl,by omega,?_⟩⟩
 have hi:=(List.getElem?_eq_some_iff.1 hs).1
 rw [Nat.zero_add,h6 i (by omega),spT_at hs]
structure XRel (w wr:World) (l:List ByteArray) (j:Nat):Prop where
 below:Below w.heap.size w wr
 size:wr.heap.size=w.heap.size+1
 has:Has wr w.heap.size (l.length+3)
 froz:∀ o,wr.frozen? ⟨w.heap.size,o,none⟩=false
 done:∀ k,k<j→wr.cell? ⟨w.heap.size,k,none⟩=some (.string (spT l k))
theorem XRel.start {w:World} {l:List ByteArray} {C:Array Value} {T:TypeId} (hC:C.size=l.length+3):XRel w (w.alloc (.cells C T)) l 0:=by
 obtain ⟨_,h2,h3⟩:=one_block (w:=w) (o:= .cells C T) rfl
 refine ⟨h3,h2,fun j hj=>?_,fun o=>World.frozen?_alloc_new _ _ _ _,fun k hk=>by omega⟩
 rw [World.cell?_alloc_new]
 exact ⟨_,Array.getElem?_eq_getElem (by omega)⟩
theorem XRel.put {w wr:World} {l:List ByteArray} {j:Nat} (h:XRel w wr l j) (hj:j<l.length+3) (s:ByteArray):XRel w (wr.setCells w.heap.size j [.string s]) l j:=
 ⟨setCells_below (Nat.le_refl _) _ _ _ h.below,(setCells_size wr _ _ _ _).trans h.size,h.has.setCells (by simp;omega),fun o=>(World.frozen?_setCells _ _ _ _ _).trans (h.froz o),fun k hk=>(World.cell?_setCells_out _ _ _ _ _ (fun _ _=> .inl (by show k<j;omega))).trans (h.done k hk)⟩
theorem XRel.step {w wr:World} {l:List ByteArray} {j:Nat} (h:XRel w wr l j) (hj:j<l.length+3) {s:ByteArray} (hs:s=spT l j):XRel w (wr.setCells w.heap.size j [.string s]) l (j+1):=by
 have g:=h.put hj s
 refine ⟨g.below,g.size,g.has,g.froz,fun k hk=>?_⟩
 by_cases e:k=j
 ·subst e
  have:=h.has.setC (vs:=[.string s]) (o:=k) (by simp;omega) 0 _ rfl
  rw [Nat.add_zero] at this
  rw [this,hs]
 ·exact g.done k (by omega)
theorem XRel.fin {w wr:World} {l:List ByteArray} (h:XRel w wr l (l.length+3)) (hl:l.length≤100000):XLent wr w.heap.size wr.heap.size (.slice (some ⟨w.heap.size,0,none⟩) l.length (l.length+3)) l:=
 ⟨w.heap.size,rfl,Nat.le_refl _,by rw [h.size];omega,hl,h.froz,fun k hk=>h.done k (by omega)⟩
structure YRel (w wr:World) (b lo hi j:Nat) (l:List ByteArray):Prop where
 apart:Apart lo hi w wr
 has:Has wr b (l.length+3)
 froz:∀ o,wr.frozen? ⟨b,o,none⟩=false
 rest:∀ k,j≤k→k<l.length+3→wr.cell? ⟨b,k,none⟩=some (.string (spT l k))
theorem XLent.open {w:World} {lo hi:Nat} {v:Value} {l:List ByteArray} (h:XLent w lo hi v l):∃ b,v= .slice (some ⟨b,0,none⟩) l.length (l.length+3)∧lo≤b∧b<hi∧l.length≤100000∧YRel w w b lo hi 0 l:=by
 obtain ⟨b,h1,h2,h3,h4,h5,h6⟩:=h
 exact ⟨b,h1,h2,h3,h4,Apart.refl _ _ _,fun j hj=>⟨_,h6 j hj⟩,h5,fun k _ hk=>h6 k hk⟩
theorem YRel.step {w wr:World} {b lo hi j:Nat} {l:List ByteArray} (h:YRel w wr b lo hi j l) (hj:j<l.length+3) (hlo:lo≤b) (hhi:b<hi) (s:ByteArray):YRel w (wr.setCells b j [.string s]) b lo hi (j+1) l:=
 ⟨setCells_apart hlo hhi _ _ _ h.apart,h.has.setCells (by simp;omega),fun o=>(World.frozen?_setCells _ _ _ _ _).trans (h.froz o),fun k hk hk'=>(World.cell?_setCells_out _ _ _ _ _ (fun _ _=> .inr (by show j+1≤k;omega))).trans (h.rest k (by omega) hk')⟩
def eqX (l r:List ByteArray):Bool:=decide (l=r)
theorem eqX_refl (l:List ByteArray):eqX l l=true:=by simp [eqX]
theorem eqX_symm (l r:List ByteArray):eqX l r=eqX r l:=by simp [eqX,eq_comm]
theorem eqX_len {l r:List ByteArray} (h:l.length≠r.length):eqX l r=false:=by
 simp only [eqX,decide_eq_false_iff_not]
 rintro rfl
 exact h rfl
theorem eqX_ne {l r:List ByteArray} {i:Nat} {a b:ByteArray} (ha:l[i]? =some a) (hb:r[i]? =some b) (h:a≠b):eqX l r=false:=by
 simp only [eqX,decide_eq_false_iff_not]
 rintro rfl
 rw [ha] at hb
 exact h (Option.some.inj hb)
theorem eqX_all {l r:List ByteArray} (hl:l.length=r.length) (h:∀ (i:Nat) (a b:ByteArray),l[i]? =some a→r[i]? =some b→a=b):eqX l r=true:=by
 simp only [eqX,decide_eq_true_eq]
 refine List.ext_getElem hl fun i h1 h2=>h i _ _ (List.getElem?_eq_getElem h1) (List.getElem?_eq_getElem h2)
structure TT where
 kind:Int
 address:ByteArray
 durable:Int
 expiry:Int
 timeout:Int
 dynamic:Bool
 mode:Int
 filter:ByteArray
 dflt:ST
 outs:List ByteArray
 caps:List ByteArray
structure TS where
 il:Value
 al:Value
 lv:Value
 ov:Value
 cv:Value
def TS.one (s:TS):Prop:=s.il.oneCell'=true∧s.al.oneCell'=true∧s.lv.oneCell'=true∧s.ov.oneCell'=true∧s.cv.oneCell'=true
def tpre (t:TT):List Value:=[.int .i64 t.kind,.string t.address,.int .i64 t.durable,.int .i64 t.expiry,.int .i64 t.timeout,.bool t.dynamic,.int .i64 t.mode,.string t.filter]
def TT.cells (t:TT) (s:TS):List Value:=tpre t++(t.dflt.cells s.il s.al s.lv++[s.ov,s.cv])
theorem TT.cells_len (t:TT) (s:TS):(t.cells s).length=29:=rfl
abbrev TT.agg (t:TT) (s:TS):Value:= .agg (t.cells s).toArray
structure TAt (B N n:Nat) (w:World) (t:TT) (s:TS):Prop where
 fine:t.dflt.Fine
 info:LAt B w N s.il t.dflt.info.list
 ann:LAt B w N s.al t.dflt.ann.list
 inner:SAt B N w n s.lv t.dflt.inner
 outs:XAt B w s.ov t.outs
 caps:XAt B w s.cv t.caps
theorem TAt.below {B N n:Nat} {w w':World} {t:TT} {s:TS} (h:TAt B N n w t s) (hb:Below B w w'):TAt B N n w' t s:=⟨h.fine,h.info.below hb,h.ann.below hb,h.inner.below hb,h.outs.below hb,h.caps.below hb⟩
theorem TAt.up {B B' N n:Nat} {w:World} {t:TT} {s:TS} (h:TAt B N n w t s) (hB:B≤B'):TAt B' N n w t s:=⟨h.fine,h.info.up hB,h.ann.up hB,sat_up hB h.inner,h.outs.up hB,h.caps.up hB⟩
theorem TAt.state {B N n:Nat} {w:World} {t:TT} {s:TS} (h:TAt B N n w t s):SVAt B N w n (t.dflt.agg s.il s.al s.lv) t.dflt:=⟨h.fine,_,_,_,rfl,h.info,h.ann,h.inner⟩
structure TLent (w:World) (N n lo hi:Nat) (t:TT) (s:TS) (m1 m2 m3 m4:Nat):Prop where
 fine:t.dflt.Fine
 info:LentAt w N lo m1 s.il t.dflt.info.list
 ann:LentAt w N m1 m2 s.al t.dflt.ann.list
 inner:SLent3 w N n m2 m3 s.lv t.dflt.inner
 outs:XLent w m3 m4 s.ov t.outs
 caps:XLent w m4 hi s.cv t.caps
section
variable {w w':World} {N n lo hi m1 m2 m3 m4:Nat} {t:TT} {s:TS}
theorem TLent.le (h:TLent w N n lo hi t s m1 m2 m3 m4):lo<m1∧m1<m2∧m2<m3∧m3<m4∧m4<hi:=⟨h.info.le,h.ann.le,h.inner.le,h.outs.le,h.caps.le⟩
theorem TLent.apart {x y:Nat} (h:TLent w N n lo hi t s m1 m2 m3 m4) (ha:Apart x y w w') (hs:hi≤w.heap.size) (ho:hi≤x∨y≤lo):TLent w' N n lo hi t s m1 m2 m3 m4:=by
 obtain ⟨l1,l2,l3,l4,l5⟩:=h.le
 exact ⟨h.fine,h.info.apart ha (by omega) (by omega),h.ann.apart ha (by omega) (by omega),h.inner.apart ha (by omega) (by omega),h.outs.apart ha (by omega) (by omega),h.caps.apart ha (by omega) (by omega)⟩
theorem TLent.below (h:TLent w N n lo hi t s m1 m2 m3 m4) (hs:hi≤w.heap.size) (hb:Below w.heap.size w w'):TLent w' N n lo hi t s m1 m2 m3 m4:=h.apart (x:=hi) (y:=hi) (Apart.of_below hb (Nat.le_refl _)) hs (.inl (Nat.le_refl _))
theorem TLent.tat {B:Nat} (h:TLent w N n lo hi t s m1 m2 m3 m4) (hB:hi≤B):TAt B N n w t s:=by
 obtain ⟨l1,l2,l3,l4,l5⟩:=h.le
 exact ⟨h.fine,h.info.lat (by omega),h.ann.lat (by omega),h.inner.sat (by omega),h.outs.xat (by omega),h.caps.xat (by omega)⟩
theorem TLent.lower {lo':Nat} (h:TLent w N n lo hi t s m1 m2 m3 m4) (hl:lo'≤lo):TLent w N n lo' hi t s m1 m2 m3 m4:=⟨h.fine,h.info.lo hl,h.ann,h.inner,h.outs,h.caps⟩
end
def eqTT (a b:TT):Bool:=(a.kind==b.kind)&&(a.address.toList==b.address.toList)&&(a.durable==b.durable)&&(a.expiry==b.expiry)&&(a.timeout==b.timeout)&&(a.dynamic==b.dynamic)&&(a.mode==b.mode)&&(a.filter.toList==b.filter.toList)&&eqS a.dflt b.dflt&&eqX a.outs b.outs&&eqX a.caps b.caps
theorem eqTT_refl (a:TT):eqTT a a=true:=by simp [eqTT,eqS_refl,eqX_refl]
theorem eqTT_symm (a b:TT):eqTT a b=eqTT b a:=by
 unfold eqTT
 rw [eqS_symm a.dflt,eqX_symm a.outs,eqX_symm a.caps,Bool.beq_comm (a:=a.kind),Bool.beq_comm (a:=a.address.toList),Bool.beq_comm (a:=a.durable),Bool.beq_comm (a:=a.expiry),Bool.beq_comm (a:=a.timeout),Bool.beq_comm (a:=a.dynamic),Bool.beq_comm (a:=a.mode),Bool.beq_comm (a:=a.filter.toList)]
def ucells (u:ByteArray×ST) (il al lv:Value):List Value:= .string u.1::u.2.cells il al lv
theorem ucells_len (u:ByteArray×ST) (il al lv:Value):(ucells u il al lv).length=20:=rfl
def oddU:List Value:=[.string behindB,.int .i64 0,.int .i64 0,.int .i64 0,.string ⟨#[]⟩,.string ⟨#[]⟩,.int .i64 0,.int .u64 0,.string ⟨#[]⟩,.slice none 0 0,.int .i64 0,.bool false,.bool false,.int .i64 0,.int .u64 0,.string ⟨#[]⟩,.slice none 0 0,.int .i64 0,.string ⟨#[]⟩,.slice none 0 0]
def UAt (B N n:Nat) (w:World) (v:Value) (l:List (ByteArray×ST)):Prop:=∃ p c,v= .slice p l.length c∧l.length≤maxLen∧∀ i u,l[i]? =some u→∃ b off il al lv,p=some ⟨b,off,none⟩∧b<B∧Cells w b (off+i*20) (ucells u il al lv)∧u.2.Fine∧LAt B w N il u.2.info.list∧LAt B w N al u.2.ann.list∧SAt B N w n lv u.2.inner
theorem UAt.slice {B N n:Nat} {w:World} {v:Value} {l:List (ByteArray×ST)} (h:UAt B N n w v l):∃ p c,v= .slice p l.length c:=let ⟨p,c,h1,_⟩:=h;⟨p,c,h1⟩
theorem UAt.below {B N n:Nat} {w w':World} {v:Value} {l:List (ByteArray×ST)} (h:UAt B N n w v l) (hb:Below B w w'):UAt B N n w' v l:=by
 obtain ⟨p,c,h1,h2,h3⟩:=h
 refine ⟨p,c,h1,h2,fun i u hu=>?_⟩
 obtain ⟨b,off,il,al,lv,hp,hlt,hc,hf,a1,a2,a3⟩:=h3 i u hu
 exact ⟨b,off,il,al,lv,hp,hlt,hc.below hb hlt,hf,a1.below hb,a2.below hb,a3.below hb⟩
theorem UAt.up {B B' N n:Nat} {w:World} {v:Value} {l:List (ByteArray×ST)} (h:UAt B N n w v l) (hB:B≤B'):UAt B' N n w v l:=by
 obtain ⟨p,c,h1,h2,h3⟩:=h
 refine ⟨p,c,h1,h2,fun i u hu=>?_⟩
 obtain ⟨b,off,il,al,lv,hp,hlt,hc,hf,a1,a2,a3⟩:=h3 i u hu
 exact ⟨b,off,il,al,lv,hp,by omega,hc,hf,a1.up hB,a2.up hB,sat_up hB a3⟩
def ULent (w:World) (N n lo hi:Nat) (v:Value) (ss:List (ByteArray×ST)):Prop:=∃ b m,v= .slice (some ⟨b,0,none⟩) ss.length (ss.length+3)∧lo≤b∧b<m∧ss.length≤10000∧
     (∀ j,w.frozen? ⟨b,j,none⟩=false)∧(∀ k,k<3→∃ cs:List Value,cs.length=20∧cs=oddU∧Cells w b ((ss.length+k)*20) cs)∧
     Chain (fun i l h s=>l≤h∧s.2.Fine∧∃ il al lv m1 m2,Cells w b (i*20) (ucells s il al lv)∧LentAt w N l m1 il s.2.info.list∧LentAt w N m1 m2 al s.2.ann.list∧SLent3 w N n m2 h lv s.2.inner) 0 m hi ss
theorem uchain_hi {E:Nat→Nat→Nat→ByteArray×ST→Prop} (hE:∀ i l h h' t,E i l h t→h≤h'→E i l h' t):∀ {ss:List (ByteArray×ST)} {i lo hi hi':Nat},ss≠[]→Chain E i lo hi ss→hi≤hi'→Chain E i lo hi' ss
 |[],_,_,_,_,h,_,_=>absurd rfl h
 |[a],i,lo,hi,hi',_,⟨m,h1,h2⟩,hh=>by
  have h2:m=hi:=h2
  subst h2
  exact ⟨hi',hE _ _ _ _ _ h1 hh,rfl⟩
 |a::b::ss,i,lo,hi,hi',_,⟨m,h1,h2⟩,hh=>⟨m,h1,uchain_hi hE (by simp) h2 hh⟩
theorem ULent.hi {w:World} {N n lo hi hi':Nat} {v:Value} {ss:List (ByteArray×ST)} (h:ULent w N n lo hi v ss) (hh:hi≤hi'):ULent w N n lo hi' v ss:=by
 obtain ⟨b,m,hv,h1,h2,h3,h4,h5,hc⟩:=h
 have hm:=(hc.imp (fun i l h t h=>h.1) fun _ _ _ _ _ _ h=>h).2
 cases ss with
 |nil=>exact ⟨b,hi',hv,h1,by omega,h3,h4,h5,rfl⟩
 |cons a r=>exact ⟨b,m,hv,h1,h2,h3,h4,h5,uchain_hi (fun i l h h' t ⟨e1,e2,il,al,lv,m1,m2,e3,e4,e5,e6⟩ hh=>⟨by omega,e2,il,al,lv,m1,m2,e3,e4,e5,SLent3.hi e6 hh⟩) (by simp) hc hh⟩
theorem ULent.le {w:World} {N n lo hi:Nat} {v:Value} {ss:List (ByteArray×ST)} (h:ULent w N n lo hi v ss):lo<hi:=by
 obtain ⟨b,m,_,h1,h2,_,_,_,hc⟩:=h
 have:=(hc.imp (fun i l h t h=>h.1) fun _ _ _ _ _ _ h=>h).2
 omega
theorem ULent.apart {x y:Nat} {w w':World} {N n lo hi:Nat} {v:Value} {ss:List (ByteArray×ST)} (h:ULent w N n lo hi v ss) (ha:Apart x y w w') (hs:hi≤w.heap.size) (ho:hi≤x∨y≤lo):ULent w' N n lo hi v ss:=by
 obtain ⟨b,m,hv,h1,h2,h3,h4,h5,hc⟩:=h
 have hm:=(hc.imp (fun i l h t h=>h.1) fun _ _ _ _ _ _ h=>h).2
 have hb:b<w.heap.size:=by omega
 have hbo:b<x∨y≤b:=by omega
 refine ⟨b,m,hv,h1,h2,h3,fun j=>(ha.frozen (p:=⟨b,j,none⟩) hb hbo).trans (h4 j),fun k hk=>?_,(hc.imp (fun i l h t h=>h.1) ?_).1⟩
 ·obtain ⟨cs,c1,c2,c3⟩:=h5 k hk
  exact ⟨cs,c1,c2,c3.apart ha hb hbo⟩
 ·rintro i l h t hl hh ⟨e1,e2,il,al,lv,m1,m2,e3,e4,e5,e6⟩
  have l1:=e4.le
  have l2:=e5.le
  have l3:=e6.le
  exact ⟨e1,e2,il,al,lv,m1,m2,e3.apart ha hb hbo,e4.apart ha (by omega) (by omega),e5.apart ha (by omega) (by omega),e6.apart ha (by omega) (by omega)⟩
theorem ULent.below {w w':World} {N n lo hi:Nat} {v:Value} {ss:List (ByteArray×ST)} (h:ULent w N n lo hi v ss) (hs:hi≤w.heap.size) (hb:Below w.heap.size w w'):ULent w' N n lo hi v ss:=
 h.apart (x:=hi) (y:=hi) (Apart.of_below hb (Nat.le_refl _)) hs (.inl (Nat.le_refl _))
theorem ULent.uat {B:Nat} {w:World} {N n lo hi:Nat} {v:Value} {ss:List (ByteArray×ST)} (h:ULent w N n lo hi v ss) (hB:hi≤B):UAt B N n w v ss:=by
 obtain ⟨b,m,hv,h1,h2,h3,h4,h5,hc⟩:=h
 have hm:=(hc.imp (fun i l h t h=>h.1) fun _ _ _ _ _ _ h=>h).2
 refine ⟨_,_,hv,Nat.le_trans h3 (by decide),fun i t ht=>?_⟩
 obtain ⟨l,h,_,hh,_,e2,il,al,lv,m1,m2,e3,e4,e5,e6⟩:=hc.at_ (fun i l h t h=>h.1) ht
 rw [Nat.zero_add] at e3
 have l1:=e4.le
 have l2:=e5.le
 have l3:=e6.le
 exact ⟨b,0,il,al,lv,rfl,by omega,by rw [Nat.zero_add];exact e3,e2,e4.lat (by omega),e5.lat (by omega),e6.sat (by omega)⟩
theorem has_of_rows {w:World} {b m:Nat} (h:∀ k,k<m→∃ cs:List Value,cs.length=20∧Cells w b (k*20) cs):Has w b (m*20):=fun j hj=>by
 obtain ⟨cs,h1,h2⟩:=h (j/20) (by omega)
 have hlt:j%20<cs.length:=by omega
 have:=h2 (j%20) _ (List.getElem?_eq_getElem hlt)
 rw [show j/20*20+j%20=j by omega] at this
 exact ⟨_,this⟩
def UPart (w:World) (b N n:Nat) (i l h:Nat) (s:ByteArray×ST):Prop:=l≤h∧s.2.Fine∧∃ il al lv m1 m2,Cells w b (i*20) (ucells s il al lv)∧LentAt w N l m1 il s.2.info.list∧LentAt w N m1 m2 al s.2.ann.list∧SLent3 w N n m2 h lv s.2.inner
theorem uparts_keep {w w':World} {b N n i m hi x:Nat} {ts:List (ByteArray×ST)} (h:Chain (UPart w b N n) i m hi ts) (hc:∀ j,i*20≤j→j<(i+ts.length)*20→w'.cell? ⟨b,j,none⟩=w.cell? ⟨b,j,none⟩) (ha:Apart b x w w') (hhi:hi≤w.heap.size) (hx:x≤m):Chain (UPart w' b N n) i m hi ts:=
 (h.imp' (fun _ _ _ _ p=>p.1) (by
   rintro j l h t hj hj' hl hh ⟨e1,e2,il,al,lv,m1,m2,e3,e4,e5,e6⟩
   have l1:=e4.le
   have l2:=e5.le
   have l3:=e6.le
   exact ⟨e1,e2,il,al,lv,m1,m2,e3.keep (fun k hk=>hc _ (by omega) (by rw [ucells_len] at hk;omega)),e4.apart ha (by omega) (by omega),e5.apart ha (by omega) (by omega),e6.apart ha (by omega) (by omega)⟩)).1
structure UKw (w wr:World) (N n b lo hi j:Nat) (ss:List (ByteArray×ST)):Prop where
 apart:Apart lo hi w wr
 has:Has wr b ((ss.length+3)*20)
 froz:∀ o,wr.frozen? ⟨b,o,none⟩=false
 parts:∃ mid,b<mid∧Chain (UPart wr b N n) j mid hi (ss.drop j)
 marks:∀ k,ss.length≤k→k<ss.length+3→j≤k→∃ cs:List Value,cs.length=20∧cs=oddU∧Cells wr b (k*20) cs
theorem ulent_open {w:World} {N n lo hi:Nat} {v:Value} {ss:List (ByteArray×ST)} (h:ULent w N n lo hi v ss):∃ b,v= .slice (some ⟨b,0,none⟩) ss.length (ss.length+3)∧lo≤b∧b<hi∧ss.length≤10000∧UKw w w N n b lo hi 0 ss:=by
 obtain ⟨b,m,hv,h1,h2,h3,h4,h5,hc⟩:=h
 have hm:=(hc.imp (fun i l h t h=>h.1) fun _ _ _ _ _ _ h=>h).2
 have hmk:∀ k,ss.length≤k→k<ss.length+3→∃ cs:List Value,cs.length=20∧cs=oddU∧Cells w b (k*20) cs:=fun k hk hk'=>by
  have:=h5 (k-ss.length) (by omega)
  rwa [show ss.length+(k-ss.length)=k by omega] at this
 refine ⟨b,hv,h1,by omega,h3,Apart.refl _ _ _,has_of_rows fun k hk=>?_,h4,⟨m,h2,hc⟩,fun k hk hk' _=>hmk k hk hk'⟩
 by_cases hkl:k<ss.length
 ·obtain ⟨x,y,_,_,_,_,il,al,lv,m1,m2,e,_⟩:=hc.at_ (fun i l h t h=>h.1) (k:=k) (List.getElem?_eq_getElem hkl)
  rw [Nat.zero_add] at e
  exact ⟨_,ucells_len _ _ _ _,e⟩
 ·obtain ⟨cs,c1,_,c3⟩:=hmk k (by omega) hk
  exact ⟨cs,c1,c3⟩
theorem UKw.head {w wr:World} {N n b lo hi j:Nat} {ss:List (ByteArray×ST)} {t:ByteArray×ST} (h:UKw w wr N n b lo hi j ss) (ht:ss[j]? =some t) (hlo:lo≤b) (hbs:hi≤w.heap.size):
 ∃ x y il al lv m1 m2,b<x∧y≤hi∧t.2.Fine∧Cells wr b (j*20) (ucells t il al lv)∧LentAt wr N x m1 il t.2.info.list∧LentAt wr N m1 m2 al t.2.ann.list∧SLent3 wr N n m2 y lv t.2.inner∧
   ∀ w2,Apart x y wr w2→∀ cs:List Value,cs.length=20→UKw w (w2.setCells b (j*20) cs) N n b lo hi (j+1) ss:=by
 obtain ⟨mid,hm,hc⟩:=h.parts
 have hj:j<ss.length:=(List.getElem?_eq_some_iff.1 ht).1
 rw [drop_cons_at ht] at hc
 obtain ⟨y,⟨h1,hf,il,al,lv,m1,m2,ha,hl1,hl2,hl3⟩,hc2⟩:=hc
 have hy:=(hc2.imp (fun i l h t h=>h.1) fun _ _ _ _ _ _ h=>h).2
 have hs:=h.apart.size
 have l1:=hl1.le
 have l2:=hl2.le
 have l3:=hl3.le
 have hb:b<wr.heap.size:=by omega
 refine ⟨mid,y,il,al,lv,m1,m2,hm,hy,hf,ha,hl1,hl2,hl3,fun w2 ha2 cs hcs=>?_⟩
 have hs2:=ha2.size
 have c2:∀ o,w2.cell? ⟨b,o,none⟩=wr.cell? ⟨b,o,none⟩:=fun o=>ha2.cell (p:=⟨b,o,none⟩) hb (.inl hm)
 have has2:Has w2 b ((ss.length+3)*20):=h.has.apart ha2 hb (.inl hm)
 have ha3:Apart b (b+1) w2 (w2.setCells b (j*20) cs):=setCells_apart (Nat.le_refl _) (Nat.lt_succ_self _) _ _ _ (Apart.refl _ _ _)
 refine ⟨(h.apart.trans (ha2.wide (by omega) hy)).trans (ha3.wide hlo (by omega)),has2.setCells (by omega),fun o=>(World.frozen?_setCells _ _ _ _ _).trans ((ha2.frozen (p:=⟨b,o,none⟩) hb (.inl hm)).trans (h.froz o)),⟨y,by omega,?_⟩,fun k hk hk' hjk=>?_⟩
 ·have h2:Chain (UPart w2 b N n) (j+1) y hi (ss.drop (j+1)):=(hc2.imp (fun i l h t h=>h.1) (by
   rintro i x1 x2 t' hx1 hx2 ⟨p1,p2,il2,al2,lv2,q1,q2,p3,p4,p5,p6⟩
   have e1:=p4.le
   have e2:=p5.le
   have e3:=p6.le
   exact ⟨p1,p2,il2,al2,lv2,q1,q2,p3.keep (fun k _=>c2 _),p4.apart ha2 (by omega) (.inr (by omega)),p5.apart ha2 (by omega) (.inr (by omega)),p6.apart ha2 (by omega) (.inr (by omega))⟩)).1
  exact uparts_keep h2 (fun o ho _=>World.cell?_setCells_out _ _ _ _ _ (fun _ _=> .inr (by show j*20+cs.length≤o;omega))) ha3 (by omega) (by omega)
 ·obtain ⟨ds,d1,d2,d3⟩:=h.marks k hk hk' (by omega)
  exact ⟨ds,d1,d2,d3.keep (fun i hi=>(World.cell?_setCells_out _ _ _ _ _ (fun _ _=> .inr (by show j*20+cs.length≤k*20+i;omega))).trans (c2 _))⟩
theorem UKw.mark {w wr:World} {N n b lo hi j:Nat} {ss:List (ByteArray×ST)} {cs:List Value} (h:UKw w wr N n b lo hi j ss) (hj:ss.length≤j) (hj3:j<ss.length+3) (hlo:lo≤b) (hbh:b<hi) (hcs:cs.length=20):UKw w (wr.setCells b (j*20) cs) N n b lo hi (j+1) ss:=by
 obtain ⟨mid,hm,hc⟩:=h.parts
 rw [List.drop_eq_nil_of_le hj] at hc
 have ha3:Apart b (b+1) wr (wr.setCells b (j*20) cs):=setCells_apart (Nat.le_refl _) (Nat.lt_succ_self _) _ _ _ (Apart.refl _ _ _)
 refine ⟨h.apart.trans (ha3.wide hlo (by omega)),h.has.setCells (by omega),fun o=>(World.frozen?_setCells _ _ _ _ _).trans (h.froz o),⟨mid,hm,by rw [List.drop_eq_nil_of_le (by omega)];exact hc⟩,fun k hk hk' hjk=>?_⟩
 obtain ⟨ds,d1,d2,d3⟩:=h.marks k hk hk' (by omega)
 exact ⟨ds,d1,d2,d3.keep (fun i hi=>World.cell?_setCells_out _ _ _ _ _ (fun _ _=> .inr (by show j*20+cs.length≤k*20+i;omega)))⟩
structure URw (b0:Nat) (w wr:World) (N n j:Nat) (ss:List (ByteArray×ST)):Prop where
 below:Below b0 w wr
 lt:w.heap.size<wr.heap.size
 ge:b0≤w.heap.size
 keep:Below w.heap.size w wr
 has:Has wr w.heap.size ((ss.length+3)*20)
 froz:∀ o,wr.frozen? ⟨w.heap.size,o,none⟩=false
 parts:∃ h,w.heap.size<h∧h≤wr.heap.size∧Chain (UPart wr w.heap.size N n) 0 (w.heap.size+1) h (ss.take j)
 marks:∀ k,ss.length≤k→k<j→∃ cs:List Value,cs.length=20∧cs=oddU∧Cells wr w.heap.size (k*20) cs
theorem URw.start {w:World} {N n:Nat} {ss:List (ByteArray×ST)} {C:Array Value} {T:TypeId} (hC:C.size=(ss.length+3)*20):URw w.heap.size w (w.alloc (.cells C T)) N n 0 ss:=by
 obtain ⟨h1,h2,h3⟩:=one_block (w:=w) (o:= .cells C T) rfl
 refine ⟨h3,by omega,Nat.le_refl _,h3,fun j hj=>?_,fun o=>World.frozen?_alloc_new _ _ _ _,⟨w.heap.size+1,by omega,by omega,rfl⟩,fun k _ hk=>by omega⟩
 rw [World.cell?_alloc_new]
 exact ⟨_,Array.getElem?_eq_getElem (by omega)⟩
theorem URw.grow {b0:Nat} {w wr w2:World} {N n j:Nat} {ss:List (ByteArray×ST)} (h:URw b0 w wr N n j ss) (hb:Below wr.heap.size wr w2):URw b0 w w2 N n j ss:=by
 have hs:=hb.size
 have hlt:=h.lt
 have hge:=h.ge
 obtain ⟨h1,h2,h3,hc⟩:=h.parts
 refine ⟨h.below.trans (hb.mono (by omega)),by omega,h.ge,h.keep.trans (hb.mono (by omega)),h.has.below hb hlt,fun o=>(hb.frozen (p:=⟨_,o,none⟩) hlt).trans (h.froz o),⟨h1,h2,by omega,uparts_keep hc (fun j _ _=>hb.cell (p:=⟨_,j,none⟩) hlt) (Apart.of_below (lo:=w.heap.size) (hi:=w.heap.size+1) (hb.mono (Nat.le_refl _)) (by omega)) h3 (Nat.le_refl _)⟩,fun k hk hk'=>?_⟩
 obtain ⟨cs,c1,c2,c3⟩:=h.marks k hk hk'
 exact ⟨cs,c1,c2,c3.below hb hlt⟩
theorem URw.mark {b0:Nat} {w wr:World} {N n j:Nat} {ss:List (ByteArray×ST)} {cs:List Value} (h:URw b0 w wr N n j ss) (hj:ss.length≤j) (hj3:j<ss.length+3) (hl:cs.length=20) (h0:cs=oddU):URw b0 w (wr.setCells w.heap.size (j*20) cs) N n (j+1) ss:=by
 have hz:=setCells_size wr w.heap.size cs (j*20) wr
 refine ⟨setCells_below h.ge _ _ _ h.below,by rw [hz];exact h.lt,h.ge,setCells_below (Nat.le_refl _) _ _ _ h.keep,h.has.setCells (by omega),fun o=>(World.frozen?_setCells _ _ _ _ _).trans (h.froz o),?_,fun k hk hk'=>?_⟩
 ·obtain ⟨h1,h2,h3,hp⟩:=h.parts
  rw [List.take_of_length_le (by omega)] at hp ⊢
  rw [hz]
  exact ⟨h1,h2,h3,uparts_keep hp (fun o ho ho'=>World.cell?_setCells_out _ _ _ _ _ (fun _ _=> .inl (by show o<j*20;omega))) (setCells_apart (Nat.le_refl _) (Nat.lt_succ_self _) _ _ _ (Apart.refl _ _ _)) h3 (Nat.le_refl _)⟩
 ·by_cases e:k=j
  ·subst e;exact ⟨cs,hl,h0,h.has.setC (by omega)⟩
  ·obtain ⟨cs',c1,c2,c3⟩:=h.marks k hk (by omega)
   exact ⟨cs',c1,c2,c3.keep (fun i hi=>World.cell?_setCells_out _ _ _ _ _ (fun _ _=> .inl (by show k*20+i<j*20;omega)))⟩
theorem URw.over {b0:Nat} {w wr:World} {N n j:Nat} {ss:List (ByteArray×ST)} {cs:List Value} (h:URw b0 w wr N n j ss) (_hj:j<ss.length+3) (hl:cs.length=20) (hm:j<ss.length):URw b0 w (wr.setCells w.heap.size (j*20) cs) N n j ss:=by
 have hz:=setCells_size wr w.heap.size cs (j*20) wr
 refine ⟨setCells_below h.ge _ _ _ h.below,by rw [hz];exact h.lt,h.ge,setCells_below (Nat.le_refl _) _ _ _ h.keep,h.has.setCells (by omega),fun o=>(World.frozen?_setCells _ _ _ _ _).trans (h.froz o),?_,fun k hk hk'=>by omega⟩
 obtain ⟨h1,h2,h3,hp⟩:=h.parts
 rw [hz]
 exact ⟨h1,h2,h3,uparts_keep hp (fun o ho ho'=>World.cell?_setCells_out _ _ _ _ _ (fun _ _=> .inl (by rw [take_len (by omega)] at ho';show o<j*20;omega))) (setCells_apart (Nat.le_refl _) (Nat.lt_succ_self _) _ _ _ (Apart.refl _ _ _)) h3 (Nat.le_refl _)⟩
theorem URw.part {b0:Nat} {w wr w2:World} {N n j:Nat} {ss:List (ByteArray×ST)} {s:ByteArray×ST} {il al lv:Value} {m1 m2:Nat} (h:URw b0 w wr N n j ss) (hs:ss[j]? =some s) (hf:s.2.Fine)
 (hb:Below wr.heap.size wr w2)
 (e4:LentAt w2 N wr.heap.size m1 il s.2.info.list) (e5:LentAt w2 N m1 m2 al s.2.ann.list) (e6:SLent3 w2 N n m2 w2.heap.size lv s.2.inner):
 URw b0 w (w2.setCells w.heap.size (j*20) (ucells s il al lv)) N n (j+1) ss:=by
 have hj:j<ss.length:=(List.getElem?_eq_some_iff.1 hs).1
 have hlt:=h.lt
 have hge:=h.ge
 have hz2:=setCells_size w2 w.heap.size (ucells s il al lv) (j*20) w2
 have hs2:=hb.size
 have l1:=e4.le
 have l2:=e5.le
 have l3:=e6.le
 have g:=h.grow hb
 have has2:=g.has
 have ha0:Apart w.heap.size (w.heap.size+1) w2 (w2.setCells w.heap.size (j*20) (ucells s il al lv)):=setCells_apart (Nat.le_refl _) (Nat.lt_succ_self _) _ _ _ (Apart.refl _ _ _)
 refine ⟨setCells_below hge _ _ _ g.below,by rw [hz2];omega,hge,setCells_below (Nat.le_refl _) _ _ _ g.keep,has2.setCells (by rw [ucells_len];omega),fun o=>(World.frozen?_setCells _ _ _ _ _).trans (g.froz o),?_,fun k hk hk'=>by omega⟩
 obtain ⟨h1,h2,h3,hp⟩:=h.parts
 obtain ⟨h1',h2',h3',hp'⟩:=g.parts
 rw [take_snoc hs,hz2]
 refine ⟨w2.heap.size,by omega,Nat.le_refl _,Chain.snoc (mid:=h1) ?_ ?_⟩
 ·have hp2:Chain (UPart w2 w.heap.size N n) 0 (w.heap.size+1) h1 (ss.take j):=uparts_keep hp (fun j _ _=>hb.cell (p:=⟨_,j,none⟩) hlt) (Apart.of_below (lo:=w.heap.size) (hi:=w.heap.size+1) (hb.mono (Nat.le_refl _)) (by omega)) h3 (Nat.le_refl _)
  exact uparts_keep hp2 (fun o ho ho'=>World.cell?_setCells_out _ _ _ _ _ (fun _ _=> .inl (by rw [take_len (by omega)] at ho';show o<j*20;omega))) ha0 (by omega) (Nat.le_refl _)
 ·rw [take_len (by omega),Nat.zero_add]
  refine ⟨by omega,hf,il,al,lv,m1,m2,has2.setC (by rw [ucells_len];omega),(e4.apart ha0 (by omega) (.inr (by omega))).lo h3,e5.apart ha0 (by omega) (.inr (by omega)),e6.apart ha0 (by omega) (.inr (by omega))⟩
theorem UKw.grow {w wr w2:World} {N n b lo hi j:Nat} {ss:List (ByteArray×ST)} (h:UKw w wr N n b lo hi j ss) (hlo:b<hi) (hs:hi≤w.heap.size) (hb:Below wr.heap.size wr w2):UKw w w2 N n b lo hi j ss:=by
 have hz:=h.apart.size
 have hbw:b<wr.heap.size:=by omega
 obtain ⟨mid,hm,hc⟩:=h.parts
 refine ⟨h.apart.trans (Apart.of_below hb (Nat.le_refl _)),h.has.below hb hbw,fun o=>(hb.frozen (p:=⟨_,o,none⟩) hbw).trans (h.froz o),⟨mid,hm,(hc.imp (fun i l h t h=>h.1) ?_).1⟩,fun k hk hk' hjk=>?_⟩
 ·rintro i l h' t hl hh ⟨e1,e2,il,al,lv,m1,m2,e3,e4,e5,e6⟩
  have l1:=e4.le
  have l2:=e5.le
  have l3:=e6.le
  have ha:Apart wr.heap.size wr.heap.size wr w2:=Apart.of_below hb (Nat.le_refl _)
  exact ⟨e1,e2,il,al,lv,m1,m2,e3.below hb hbw,e4.apart ha (by omega) (.inl (by omega)),e5.apart ha (by omega) (.inl (by omega)),e6.apart ha (by omega) (.inl (by omega))⟩
 ·obtain ⟨cs,c1,c2,c3⟩:=h.marks k hk hk' hjk
  exact ⟨cs,c1,c2,c3.below hb hbw⟩
theorem URw.done {b0:Nat} {w wr:World} {N n:Nat} {ss:List (ByteArray×ST)} (h:URw b0 w wr N n (ss.length+3) ss) (hl:ss.length≤10000):ULent wr N n w.heap.size wr.heap.size (.slice (some ⟨w.heap.size,0,none⟩) ss.length (ss.length+3)) ss:=by
 obtain ⟨h1,h2,h3,hp⟩:=h.parts
 rw [List.take_of_length_le (by omega)] at hp
 have k:ULent wr N n w.heap.size h1 (.slice (some ⟨w.heap.size,0,none⟩) ss.length (ss.length+3)) ss:=⟨w.heap.size,w.heap.size+1,rfl,Nat.le_refl _,Nat.lt_succ_self _,hl,h.froz,fun k hk=>h.marks _ (by omega) (by omega),hp⟩
 exact ULent.hi k h3
def eqU:List (ByteArray×ST)→List (ByteArray×ST)→Bool
 |[],[]=>true
 |a::l,b::r=>(a.1.toList==b.1.toList)&&eqS a.2 b.2&&eqU l r
 |_,_=>false
theorem eqU_refl:∀ l,eqU l l=true
 |[]=>rfl
 |a::l=>by simp [eqU,eqS_refl,eqU_refl l]
theorem eqU_symm:∀ l r,eqU l r=eqU r l
 |[],[]=>rfl
 |[],_::_=>rfl
 |_::_,[]=>rfl
 |a::l,b::r=>by rw [eqU,eqU,eqS_symm a.2,eqU_symm l r,Bool.beq_comm (a:=a.1.toList)]
theorem eqU_len:∀ {l r:List (ByteArray×ST)},l.length≠r.length→eqU l r=false
 |[],[],h=>absurd rfl h
 |[],_::_,_=>rfl
 |_::_,[],_=>rfl
 |a::l,b::r,h=>by rw [eqU,eqU_len (l:=l) (r:=r) (by simpa using h),Bool.and_false]
theorem eqU_step {l r:List (ByteArray×ST)} {k:Nat} {a b:ByteArray×ST} (ha:l[k]? =some a) (hb:r[k]? =some b):eqU (l.drop k) (r.drop k)=((a.1.toList==b.1.toList)&&eqS a.2 b.2&&eqU (l.drop (k+1)) (r.drop (k+1))):=by
 rw [drop_cons_at ha,drop_cons_at hb,eqU]
theorem eqU_end {l r:List (ByteArray×ST)} (h:l.length=r.length):eqU (l.drop l.length) (r.drop l.length)=true:=by
 rw [List.drop_length,h,List.drop_length,eqU]
structure PT where
 i0:Int
 s1:ByteArray
 s2:ByteArray
 i3:Int
 i4:Int
 i5:Int
 props:VT
 i11:Int
 i12:Int
 i13:Int
 i14:Int
 i15:Int
 i16:Int
 s17:ByteArray
 i18:Int
 b19:Bool
 i20:Int
 i21:Int
 src:TT
 tgt:TT
 uns:List (ByteArray×ST)
 b81:Bool
 i82:Int
 i83:Int
 i84:Int
 i85:Int
 i86:Int
 b87:Bool
 b88:Bool
 i89:Int
 b90:Bool
 s91:ByteArray
 i92:Int
 b93:Bool
 b94:Bool
 b95:Bool
 b96:Bool
 b97:Bool
 b98:Bool
 state:ST
 i118:Int
 i119:Int
 b120:Bool
 cond:ByteArray
 text:ByteArray
 info:VT
structure PS where
 pl:Value
 ss:TS
 ts:TS
 uv:Value
 xil:Value
 xal:Value
 xlv:Value
 fl:Value
def pA (p:PT):List Value:=[.int .i64 p.i0,.string p.s1,.string p.s2,.int .i64 p.i3,.int .i64 p.i4,.int .i64 p.i5]
def pB (p:PT):List Value:=[.int .i64 p.i11,.int .i64 p.i12,.int .i64 p.i13,.int .i64 p.i14,.int .i64 p.i15,.int .i64 p.i16,.string p.s17,.int .i64 p.i18,.bool p.b19,.int .i64 p.i20,.int .i64 p.i21]
def pC (p:PT):List Value:=[.bool p.b81,.int .i64 p.i82,.int .i64 p.i83,.int .i64 p.i84,.int .i64 p.i85,.int .i64 p.i86,.bool p.b87,.bool p.b88,.int .i64 p.i89,.bool p.b90,.string p.s91,.int .i64 p.i92,.bool p.b93,.bool p.b94,.bool p.b95,.bool p.b96,.bool p.b97,.bool p.b98]
def pD (p:PT):List Value:=[.int .i64 p.i118,.int .i64 p.i119,.bool p.b120]
def flatP (p:PT):List Value:=[.string p.s1,.string p.s2,.string p.s17,.string p.s91,.int .i64 p.i0,.int .i64 p.i3,.int .i64 p.i4,.int .i64 p.i5,.int .i64 p.i11,.int .i64 p.i12,.int .i64 p.i13,.int .i64 p.i14,.int .i64 p.i15,.int .i64 p.i16,.int .i64 p.i18,.int .i64 p.i20,.int .i64 p.i21,.int .i64 p.i82,.int .i64 p.i83,.int .i64 p.i84,.int .i64 p.i85,.int .i64 p.i86,.int .i64 p.i89,.int .i64 p.i92,.int .i64 p.i118,.int .i64 p.i119,.bool p.b19,.bool p.b81,.bool p.b87,.bool p.b88,.bool p.b90,.bool p.b93,.bool p.b94,.bool p.b95,.bool p.b96,.bool p.b97,.bool p.b98,.bool p.b120]
def eqN1 (p q:PT):Bool:=(p.i0==q.i0)&&(p.s1.toList==q.s1.toList)&&(p.s2.toList==q.s2.toList)&&(p.i3==q.i3)&&(p.i4==q.i4)&&(p.i5==q.i5)
def eqN2 (p q:PT):Bool:=(p.i11==q.i11)&&(p.i12==q.i12)&&(p.i13==q.i13)&&(p.i14==q.i14)&&(p.i15==q.i15)&&(p.i16==q.i16)
def eqN3 (p q:PT):Bool:=(p.s17.toList==q.s17.toList)&&(p.i18==q.i18)&&(p.b19==q.b19)&&(p.i20==q.i20)&&(p.i21==q.i21)&&(p.b81==q.b81)&&(p.i82==q.i82)&&(p.i83==q.i83)
def eqN4 (p q:PT):Bool:=(p.i84==q.i84)&&(p.i85==q.i85)&&(p.i86==q.i86)&&(p.b87==q.b87)&&(p.b88==q.b88)
def eqN5 (p q:PT):Bool:=(p.i89==q.i89)&&(p.b90==q.b90)&&(p.s91.toList==q.s91.toList)&&(p.i92==q.i92)&&(p.b93==q.b93)&&(p.b94==q.b94)&&(p.b95==q.b95)&&(p.b96==q.b96)&&(p.b97==q.b97)&&(p.b98==q.b98)
def eqN6 (p q:PT):Bool:=(p.i118==q.i118)&&(p.i119==q.i119)&&(p.b120==q.b120)
def eqN (p q:PT):Bool:=eqN1 p q&&eqN2 p q&&eqN3 p q&&eqN4 p q&&eqN5 p q&&eqN6 p q
def eqFlat (p q:PT):Bool:=(p.s1.toList==q.s1.toList)&&(p.s2.toList==q.s2.toList)&&(p.s17.toList==q.s17.toList)&&(p.s91.toList==q.s91.toList)&&(p.i0==q.i0)&&(p.i3==q.i3)&&(p.i4==q.i4)&&(p.i5==q.i5)&&(p.i11==q.i11)&&(p.i12==q.i12)&&(p.i13==q.i13)&&(p.i14==q.i14)&&(p.i15==q.i15)&&(p.i16==q.i16)&&(p.i18==q.i18)&&(p.i20==q.i20)&&(p.i21==q.i21)&&(p.i82==q.i82)&&(p.i83==q.i83)&&(p.i84==q.i84)&&(p.i85==q.i85)&&(p.i86==q.i86)&&(p.i89==q.i89)&&(p.i92==q.i92)&&(p.i118==q.i118)&&(p.i119==q.i119)&&(p.b19==q.b19)&&(p.b81==q.b81)&&(p.b87==q.b87)&&(p.b88==q.b88)&&(p.b90==q.b90)&&(p.b93==q.b93)&&(p.b94==q.b94)&&(p.b95==q.b95)&&(p.b96==q.b96)&&(p.b97==q.b97)&&(p.b98==q.b98)&&(p.b120==q.b120)
theorem eqFlat_eq (p q:PT):eqFlat p q=eqN p q:=by
 rw [Bool.eq_iff_iff]
 simp only [eqFlat,eqN,eqN1,eqN2,eqN3,eqN4,eqN5,eqN6,Bool.and_eq_true]
 constructor<;>(intro h;simp only [and_assoc] at h ⊢;simp only [h,and_self])
theorem eqN_refl (p:PT):eqN p p=true:=by simp [eqN,eqN1,eqN2,eqN3,eqN4,eqN5,eqN6]
theorem beqs (a b:ByteArray):(a.toList==b.toList)=(b.toList==a.toList):=Bool.beq_comm
theorem beqi (a b:Int):(a==b)=(b==a):=Bool.beq_comm
theorem beqb (a b:Bool):(a==b)=(b==a):=Bool.beq_comm
theorem eqN1_symm (p q:PT):eqN1 p q=eqN1 q p:=by unfold eqN1;rw [beqi p.i0,beqs p.s1,beqs p.s2,beqi p.i3,beqi p.i4,beqi p.i5]
theorem eqN2_symm (p q:PT):eqN2 p q=eqN2 q p:=by unfold eqN2;rw [beqi p.i11,beqi p.i12,beqi p.i13,beqi p.i14,beqi p.i15,beqi p.i16]
theorem eqN3_symm (p q:PT):eqN3 p q=eqN3 q p:=by unfold eqN3;rw [beqs p.s17,beqi p.i18,beqb p.b19,beqi p.i20,beqi p.i21,beqb p.b81,beqi p.i82,beqi p.i83]
theorem eqN4_symm (p q:PT):eqN4 p q=eqN4 q p:=by unfold eqN4;rw [beqi p.i84,beqi p.i85,beqi p.i86,beqb p.b87,beqb p.b88]
theorem eqN5_symm (p q:PT):eqN5 p q=eqN5 q p:=by unfold eqN5;rw [beqi p.i89,beqb p.b90,beqs p.s91,beqi p.i92,beqb p.b93,beqb p.b94,beqb p.b95,beqb p.b96,beqb p.b97,beqb p.b98]
theorem eqN6_symm (p q:PT):eqN6 p q=eqN6 q p:=by unfold eqN6;rw [beqi p.i118,beqi p.i119,beqb p.b120]
theorem eqN_symm (p q:PT):eqN p q=eqN q p:=by unfold eqN;rw [eqN1_symm,eqN2_symm,eqN3_symm,eqN4_symm,eqN5_symm,eqN6_symm]
def eqP (p q:PT):Bool:=eqN p q&&eqT p.props q.props&&eqTT p.src q.src&&eqTT p.tgt q.tgt&&eqU p.uns q.uns&&eqS p.state q.state&&((p.cond.toList==q.cond.toList)&&(p.text.toList==q.text.toList)&&eqT p.info q.info)
theorem eqP_refl (p:PT):eqP p p=true:=by simp [eqP,eqN_refl,eqT_refl,eqTT_refl,eqU_refl,eqS_refl]
theorem eqP_symm (p q:PT):eqP p q=eqP q p:=by
 unfold eqP
 rw [eqN_symm,eqT_symm p.props,eqTT_symm p.src,eqTT_symm p.tgt,eqU_symm p.uns,eqS_symm p.state,eqT_symm p.info,beqs p.cond,beqs p.text]
def PT.cells (p:PT) (s:PS):List Value:=pA p++(p.props.cells s.pl++(pB p++(p.src.cells s.ss++(p.tgt.cells s.ts++([s.uv]++(pC p++(p.state.cells s.xil s.xal s.xlv++(pD p++([.string p.cond,.string p.text]++p.info.cells s.fl)))))))))
theorem PT.cells_len (p:PT) (s:PS):(p.cells s).length=128:=rfl
abbrev PT.agg (p:PT) (s:PS):Value:= .agg (p.cells s).toArray
def PS.one (s:PS):Prop:=s.pl.oneCell'=true∧s.ss.one∧s.ts.one∧s.uv.oneCell'=true∧s.xil.oneCell'=true∧s.xal.oneCell'=true∧s.xlv.oneCell'=true∧s.fl.oneCell'=true
structure PAt (B N n:Nat) (w:World) (p:PT) (s:PS):Prop where
 pf:p.props.Fine
 if_:p.info.Fine
 sf:p.state.Fine
 props:LAt B w N s.pl p.props.list
 src:TAt B N n w p.src s.ss
 tgt:TAt B N n w p.tgt s.ts
 uns:UAt B N n w s.uv p.uns
 si:LAt B w N s.xil p.state.info.list
 sa:LAt B w N s.xal p.state.ann.list
 sl:SAt B N w n s.xlv p.state.inner
 info:LAt B w N s.fl p.info.list
section
variable {B N n:Nat} {w w':World} {p:PT} {s:PS}
theorem PAt.below (h:PAt B N n w p s) (hb:Below B w w'):PAt B N n w' p s:=⟨h.pf,h.if_,h.sf,h.props.below hb,h.src.below hb,h.tgt.below hb,h.uns.below hb,h.si.below hb,h.sa.below hb,h.sl.below hb,h.info.below hb⟩
theorem PAt.up {B':Nat} (h:PAt B N n w p s) (hB:B≤B'):PAt B' N n w p s:=⟨h.pf,h.if_,h.sf,h.props.up hB,h.src.up hB,h.tgt.up hB,h.uns.up hB,h.si.up hB,h.sa.up hB,sat_up hB h.sl,h.info.up hB⟩
theorem PAt.st (h:PAt B N n w p s):SVAt B N w n (p.state.agg s.xil s.xal s.xlv) p.state:=⟨h.sf,_,_,_,rfl,h.si,h.sa,h.sl⟩
end
structure PM where
 k1:Nat
 k2:Nat
 a1:Nat
 a2:Nat
 k3:Nat
 b1:Nat
 b2:Nat
 b3:Nat
 b4:Nat
 k4:Nat
 c1:Nat
 c2:Nat
 c3:Nat
 c4:Nat
 k5:Nat
structure PLent (w:World) (N n lo hi:Nat) (p:PT) (s:PS) (m:PM):Prop where
 pf:p.props.Fine
 if_:p.info.Fine
 sf:p.state.Fine
 props:LentAt w N lo m.k1 s.pl p.props.list
 info:LentAt w N m.k1 m.k2 s.fl p.info.list
 si:LentAt w N m.k2 m.a1 s.xil p.state.info.list
 sa:LentAt w N m.a1 m.a2 s.xal p.state.ann.list
 sl:SLent3 w N n m.a2 m.k3 s.xlv p.state.inner
 src:TLent w N n m.k3 m.k4 p.src s.ss m.b1 m.b2 m.b3 m.b4
 tgt:TLent w N n m.k4 m.k5 p.tgt s.ts m.c1 m.c2 m.c3 m.c4
 uns:ULent w N n m.k5 hi s.uv p.uns
section
variable {N n lo hi:Nat} {w w':World} {p:PT} {s:PS} {m:PM}
theorem PLent.le (h:PLent w N n lo hi p s m):lo<m.k1∧m.k1<m.k2∧m.k2<m.a1∧m.a1<m.a2∧m.a2<m.k3∧m.k3<m.k4∧m.k4<m.k5∧m.k5<hi:=by
 have:=h.src.le
 have:=h.tgt.le
 exact ⟨h.props.le,h.info.le,h.si.le,h.sa.le,h.sl.le,by omega,by omega,h.uns.le⟩
theorem PLent.apart {x y:Nat} (h:PLent w N n lo hi p s m) (ha:Apart x y w w') (hs:hi≤w.heap.size) (ho:hi≤x∨y≤lo):PLent w' N n lo hi p s m:=by
 obtain ⟨l1,l2,l3,l4,l5,l6,l7,l8⟩:=h.le
 exact ⟨h.pf,h.if_,h.sf,h.props.apart ha (by omega) (by omega),h.info.apart ha (by omega) (by omega),h.si.apart ha (by omega) (by omega),h.sa.apart ha (by omega) (by omega),h.sl.apart ha (by omega) (by omega),h.src.apart ha (by omega) (by omega),h.tgt.apart ha (by omega) (by omega),h.uns.apart ha (by omega) (by omega)⟩
theorem PLent.below (h:PLent w N n lo hi p s m) (hs:hi≤w.heap.size) (hb:Below w.heap.size w w'):PLent w' N n lo hi p s m:=h.apart (x:=hi) (y:=hi) (Apart.of_below hb (Nat.le_refl _)) hs (.inl (Nat.le_refl _))
theorem PLent.pat {B:Nat} (h:PLent w N n lo hi p s m) (hB:hi≤B):PAt B N n w p s:=by
 obtain ⟨l1,l2,l3,l4,l5,l6,l7,l8⟩:=h.le
 exact ⟨h.pf,h.if_,h.sf,h.props.lat (by omega),h.src.tat (by omega),h.tgt.tat (by omega),h.uns.uat (by omega),h.si.lat (by omega),h.sa.lat (by omega),h.sl.sat (by omega),h.info.lat (by omega)⟩
end
mutual
def tw:VT→Nat
 | .mk _ _ s _ l=>1+s.size/64+tws l
def tws:List VT→Nat
 |[]=>0
 |t::ts=>tw t+tws ts
end
theorem tw_eq (t:VT):tw t=1+t.text.size/64+tws t.list:=by cases t;rw [tw];rfl
theorem tws_append (a b:List VT):tws (a++b)=tws a+tws b:=by
 induction a with
 |nil=>simp [tws]
 |cons x a ih=>simp [tws,ih];omega
mutual
theorem wt_tw:∀ (t:VT) (n:Nat),wt t n≤100000→wt t n=n+tw t
 | .mk k m s e l,n,h=>by
   rw [wt] at h ⊢
   rw [wts_tws l _ h,tw];omega
theorem wts_tws:∀ (l:List VT) (n:Nat),wts l n≤100000→wts l n=n+tws l
 |[],n,_=>by rw [wts,tws];omega
 |t::l,n,h=>by
  rw [wts] at h ⊢
  split at h
  ·rename_i hn
   rw [if_pos hn]
   have h1:=wts_tws l _ h
   have h2:=wt_tw t n (by omega)
   rw [h1,h2,tws];omega
  ·omega
end
mutual
theorem tw_wt:∀ (t:VT) (n:Nat),n+tw t≤100000→wt t n=n+tw t
 | .mk k m s e l,n,h=>by
   rw [tw] at h ⊢
   rw [wt,tws_wts l _ (by omega)];omega
theorem tws_wts:∀ (l:List VT) (n:Nat),n+tws l≤100000→wts l n=n+tws l
 |[],n,_=>by rw [wts,tws];omega
 |t::l,n,h=>by
  rw [tws] at h
  rw [wts,if_pos (by omega),tw_wt t n (by omega),tws_wts l _ (by omega),tws];omega
end
theorem tws_mem:∀ {l:List VT} {t:VT},t∈l→tw t≤tws l
 |a::l,t,h=>by
  rw [tws]
  rcases List.mem_cons.1 h with rfl|h
  ·omega
  ·have:=tws_mem h;omega
theorem sms_of {t:VT} (h:tw t≤100000):Sms t.list:=⟨0,by rw [tw_eq] at h;rw [tws_wts _ _ (by omega)];omega⟩
def sf (s:ST):Nat:=1+if s.gr then 20000 else 0
def sfs (l:List ST):Nat:=(l.map sf).sum
mutual
def tot:ST→Nat
 | .mk k c o b t i f e a x l=>sf (.mk k c o b t i f e a x l)+tots l
def tots:List ST→Nat
 |[]=>0
 |s::ss=>tot s+tots ss
end
theorem tot_eq (s:ST):tot s=sf s+tots s.inner:=by cases s;rw [tot];rfl
theorem tots_append (a b:List ST):tots (a++b)=tots a+tots b:=by
 induction a with
 |nil=>simp [tots]
 |cons x a ih=>simp [tots,ih];omega
theorem tots_mem:∀ {l:List ST} {t:ST},t∈l→tot t≤tots l
 |a::l,t,h=>by
  rw [tots]
  rcases List.mem_cons.1 h with rfl|h
  ·omega
  ·have:=tots_mem h;omega
mutual
theorem tot_swt:∀ (t:ST) (n:Nat),n+tot t≤10000→swt t n=n+tot t
 | .mk k c o b t i f e a x l,n,h=>by
   rw [tot_eq] at h ⊢
   have:=tots_swts l (n+sf (.mk k c o b t i f e a x l)) (by show _+tots l≤_;have:tots (ST.mk k c o b t i f e a x l).inner=tots l:=rfl;omega)
   rw [swt_eq]
   have e1:n+1+(if (ST.mk k c o b t i f e a x l).gr=true then 20000 else 0)=n+sf (.mk k c o b t i f e a x l):=by unfold sf;omega
   rw [e1]
   show swts l _=_
   rw [this]
   have:tots (ST.mk k c o b t i f e a x l).inner=tots l:=rfl
   omega
theorem tots_swts:∀ (l:List ST) (n:Nat),n+tots l≤10000→swts l n=n+tots l
 |[],n,_=>by rw [swts,tots];omega
 |t::l,n,h=>by
  rw [tots] at h
  rw [swts,if_pos (by omega),tot_swt t n (by omega),tots_swts l _ (by omega),tots];omega
end
theorem sfs_append (a b:List ST):sfs (a++b)=sfs a+sfs b:=by simp [sfs]
def gat (l:List ST):List VT:=l.flatMap fun s=>[s.ann,s.info]
theorem gat_append (a b:List ST):gat (a++b)=gat a++gat b:=by simp [gat]
theorem gat_one (s:ST):gat [s]=[s.ann,s.info]:=rfl
theorem gat_gr:∀ {l:List ST},tws (gat l)≤100000→sfs l=l.length
 |[],_=>rfl
 |s::l,h=>by
  have e:gat (s::l)=[s.ann,s.info]++gat l:=rfl
  rw [e,tws_append] at h
  have ih:=gat_gr (l:=l) (by omega)
  have h1:tws [s.ann,s.info]=tw s.ann+tw s.info:=by simp [tws]
  have hg:s.gr=false:=by
   have:=tws_wts [s.info,s.ann] 0 (by simp [tws];omega)
   have h2:tws [s.info,s.ann]=tw s.info+tw s.ann:=by simp [tws]
   unfold ST.gr
   exact decide_eq_false (by omega)
  have e2:sfs (s::l)=sf s+sfs l:=by simp [sfs]
  rw [e2,ih,sf,hg,List.length_cons]
  simp;omega
structure GInv (init:List ST) (Q:List ST) (i:Nat):Prop where
 le:i≤Q.length
 bal:Q.length<10000→tots init=sfs (Q.take i)+tots (Q.drop i)
theorem GInv.start (init:List ST):GInv init init 0:=⟨Nat.zero_le _,fun _=>by simp [sfs]⟩
structure GMid (init:List ST) (Q:List ST) (i k:Nat) (inner:List ST):Prop where
 lt:i<Q.length
 bal:Q.length<10000→tots init=sfs (Q.take (i+1))+tots (Q.drop (i+1))+tots (inner.drop k)
theorem GInv.mid {init Q:List ST} {i:Nat} {s:ST} (h:GInv init Q i) (hs:Q[i]? =some s):GMid init Q i 0 s.inner:=by
 have hlt:=(List.getElem?_eq_some_iff.1 hs).1
 refine ⟨hlt,fun hl=>?_⟩
 rw [h.bal hl,drop_cons_at hs,tots,tot_eq,List.take_add_one,hs]
 simp [sfs];omega
theorem GMid.push {init Q inner:List ST} {i k:Nat} {x:ST} (h:GMid init Q i k inner) (hx:inner[k]? =some x):GMid init (Q++[x]) i (k+1) inner:=by
 have hlt:=h.lt
 refine ⟨by simp;omega,fun hl=>?_⟩
 rw [h.bal (by simp at hl;omega),drop_cons_at hx,List.take_append_of_le_length (by omega),List.drop_append_of_le_length (by omega),tots_append]
 simp [tots];omega
theorem GMid.done {init Q inner:List ST} {i k:Nat} (h:GMid init Q i k inner) (hk:10000≤Q.length∨inner.length≤k):GInv init Q (i+1):=by
 refine ⟨h.lt,fun hl=>?_⟩
 rcases hk with hk|hk
 ·omega
 ·rw [h.bal hl,List.drop_eq_nil_of_le hk,tots];omega
theorem GInv.fin {init Q:List ST} {props pinfo:VT} (h:GInv init Q Q.length) (hl:Q.length<5000) (hw:wts (props::pinfo::gat Q) 0≤100000):
 Sms props.list∧Sms pinfo.list∧∀ s∈init,Sms s.info.list∧Sms s.ann.list∧Ssm s.inner:=by
 have h1:=wts_tws _ _ hw
 have e:tws (props::pinfo::gat Q)=tw props+(tw pinfo+tws (gat Q)):=by rw [tws,tws]
 have hb:=h.bal (by omega)
 rw [List.take_of_length_le (Nat.le_refl _),List.drop_eq_nil_of_le (Nat.le_refl _),tots,gat_gr (by omega)] at hb
 refine ⟨sms_of (by omega),sms_of (by omega),fun s hs=>?_⟩
 have:=tots_mem hs
 exact small_of (n:=0) (by rw [tot_swt s 0 (by omega)];omega)
theorem UAt.mono {B N n N' n':Nat} {w:World} {v:Value} {l:List (ByteArray×ST)} (h:UAt B N n w v l) (hN:N≤N') (hn:n≤n'):UAt B N' n' w v l:=by
 obtain ⟨p,c,h1,h2,h3⟩:=h
 refine ⟨p,c,h1,h2,fun i u hu=>?_⟩
 obtain ⟨b,off,il,al,lv,hp,hlt,hc,hf,a1,a2,a3⟩:=h3 i u hu
 exact ⟨b,off,il,al,lv,hp,hlt,hc,hf,a1.mono hN,a2.mono hN,a3.mono hN hn⟩
theorem TAt.mono {B N n N' n':Nat} {w:World} {t:TT} {s:TS} (h:TAt B N n w t s) (hN:N≤N') (hn:n≤n'):TAt B N' n' w t s:=⟨h.fine,h.info.mono hN,h.ann.mono hN,h.inner.mono hN hn,h.outs,h.caps⟩
theorem PAt.mono {B N n N' n':Nat} {w:World} {p:PT} {s:PS} (h:PAt B N n w p s) (hN:N≤N') (hn:n≤n'):PAt B N' n' w p s:=⟨h.pf,h.if_,h.sf,h.props.mono hN,h.src.mono hN hn,h.tgt.mono hN hn,h.uns.mono hN hn,h.si.mono hN,h.sa.mono hN,h.sl.mono hN hn,h.info.mono hN⟩
abbrev OwnF (F:Type):=Nat→Option (F×Nat)
def Fam {F:Type} (pat:F→List Value) (own:OwnF F) (w:World) (f:F) (m N:Nat) (v:Value):Prop:=
 v= .slice none 0 0∨∃ b off n c,v= .slice (some ⟨b,off,none⟩) n c∧own b=some (f,off)∧n≤c∧n≤N∧w.there b off (c*(pat f).length)∧
  ∀ k,k<m→k<n→∀ j x,(pat f)[j]? =some x→w.cell? ⟨b,off+k*(pat f).length+j,none⟩=some x
section
variable {F:Type} {pat:F→List Value} {own own':OwnF F} {w w':World} {f f':F} {m m' N N':Nat} {v:Value}
theorem there_heap {b o n:Nat} (h:w.there b o n) (e:w'.heap[b]? =w.heap[b]?):w'.there b o n:=fun j hj=>
 ⟨by rw [World.cell?_of_block (a:=⟨b,o+j,none⟩) e];exact (h j hj).1,by rw [World.frozen?_of_block (a:=⟨b,o+j,none⟩) e];exact (h j hj).2⟩
theorem there_lt {b o n:Nat} (h:w.there b o n) (h0:0<n):b<w.heap.size:=by
 have:=(h 0 h0).1
 unfold World.cell? at this
 cases e:w.heap[b]? with
 |none=>simp [e] at this
 |some x=>exact (Array.getElem?_eq_some_iff.1 e).1
theorem Fam.mono (h:Fam pat own w f m N v) (hm:m'≤m) (hN:N≤N'):Fam pat own w f m' N' v:=by
 rcases h with h|⟨b,off,n,c,h1,h2,h3,h4,h5,h6⟩
 ·exact .inl h
 ·exact .inr ⟨b,off,n,c,h1,h2,h3,by omega,h5,fun k hk=>h6 k (by omega)⟩
theorem Fam.all (h:Fam pat own w f N N v) (m:Nat):Fam pat own w f m N v:=by
 rcases h with h|⟨b,off,n,c,h1,h2,h3,h4,h5,h6⟩
 ·exact .inl h
 ·exact .inr ⟨b,off,n,c,h1,h2,h3,h4,h5,fun k _ hn=>h6 k (by omega) hn⟩
theorem Fam.heap (h:Fam pat own w f m N v) (he:∀ b x,own b=some x→own' b=some x∧w'.heap[b]? =w.heap[b]?):Fam pat own' w' f m N v:=by
 rcases h with h|⟨b,off,n,c,h1,h2,h3,h4,h5,h6⟩
 ·exact .inl h
 ·obtain ⟨e1,e2⟩:=he b _ h2
  exact .inr ⟨b,off,n,c,h1,e1,h3,h4,there_heap h5 e2,fun k hk hn j x hx=>(World.cell?_of_block (a:=⟨b,_,none⟩) e2).trans (h6 k hk hn j x hx)⟩
theorem place_ne {k k' z j i:Nat} (hj:j<z) (hi:i<z) (h:k≠k'):k*z+j≠k'*z+i:=by
 rcases Nat.lt_or_gt_of_ne h with h|h
 ·have:=Nat.mul_le_mul_right z (show k+1≤k' by omega)
  rw [Nat.add_mul] at this;omega
 ·have:=Nat.mul_le_mul_right z (show k'+1≤k by omega)
  rw [Nat.add_mul] at this;omega
theorem place_lt {k c z j:Nat} (hj:j<z) (h:k<c):k*z+j<c*z:=by
 have:=Nat.mul_le_mul_right z (show k+1≤c by omega)
 rw [Nat.add_mul] at this;omega
theorem there_at {b off c z k:Nat} (h:w.there b off (c*z)) (hk:k<c):w.there b (off+k*z) z:=fun j hj=>by
 have:=h (k*z+j) (place_lt hj hk)
 rwa [←Nat.add_assoc] at this
theorem setCells_in {b o:Nat} {vs:List Value} (h:w.there b o vs.length) {j:Nat} {x:Value} (hx:vs[j]? =some x):(w.setCells b o vs).cell? ⟨b,o+j,none⟩=some x:=by
 have hj:=(List.getElem?_eq_some_iff.1 hx).1
 rw [World.cell?_setCells_in b vs o w (fun j hj=>(h j hj).1) j hj]
 exact congrArg some (List.getElem?_eq_some_iff.1 hx).2
theorem Fam.write {b off k c:Nat} (hb:own b=some (f,off)) (ht:w.there b off (c*(pat f).length)) (hk:k<c) (h:Fam pat own w f' m N v):
 Fam pat own (w.setCells b (off+k*(pat f).length) (pat f)) f' m N v:=by
 rcases h with h|⟨b',off',n,c',h1,h2,h3,h4,h5,h6⟩
 ·exact .inl h
 ·refine .inr ⟨b',off',n,c',h1,h2,h3,h4,World.there_setCells h5 _ _ _,fun k' hk' hn j x hx=>?_⟩
  by_cases e:b'=b
  ·subst e
   rw [hb] at h2
   cases h2
   have hj:=(List.getElem?_eq_some_iff.1 hx).1
   by_cases e:k'=k
   ·subst e
    exact setCells_in (there_at ht hk) hx
   ·rw [World.cell?_setCells_out]
    ·exact h6 k' hk' hn j x hx
    ·intro _ _
     show off+k'*(pat f).length+j<off+k*(pat f).length∨off+k*(pat f).length+(pat f).length≤off+k'*(pat f).length+j
     rcases Nat.lt_or_gt_of_ne e with e|e
     ·have:=place_lt hj e;omega
     ·have:=Nat.mul_le_mul_right (pat f).length (show k+1≤k' by omega)
      rw [Nat.add_mul] at this;omega
  ·rw [World.cell?_setCells_out _ _ _ _ _ (fun h=>absurd h e)]
   exact h6 k' hk' hn j x hx
theorem Fam.next {b off n c:Nat} (h:Fam pat own w f m N (.slice (some ⟨b,off,none⟩) n c)) (hm:m<n):Fam pat own (w.setCells b (off+m*(pat f).length) (pat f)) f (m+1) N (.slice (some ⟨b,off,none⟩) n c):=by
 rcases h with h|⟨b',off',n',c',h1,h2,h3,h4,h5,h6⟩
 ·cases h
 ·cases h1
  refine .inr ⟨b,off,n,c,rfl,h2,h3,h4,World.there_setCells h5 _ _ _,fun k' hk' hn j x hx=>?_⟩
  have hj:=(List.getElem?_eq_some_iff.1 hx).1
  by_cases e:k'=m
  ·subst e
   exact setCells_in (there_at h5 (by omega)) hx
  ·rw [World.cell?_setCells_out]
   ·exact h6 k' (by omega) hn j x hx
   ·intro _ _
    have:=place_lt hj (show k'<m by omega)
    exact .inl (by show off+k'*(pat f).length+j<off+m*(pat f).length;omega)
end
structure OStep {F:Type} (pat:F→List Value) (own:OwnF F) (w:World) (own':OwnF F) (w':World) (row:Option Nat):Prop where
 os:w'.os=w.os
 tape:w'.tape=w.tape
 output:w'.output=w.output
 size:w.heap.size≤w'.heap.size
 old:∀ b,b<w.heap.size→own' b=own b
 dom:∀ b x,own' b=some x→b<w'.heap.size
 kept:∀ b,b<w.heap.size→own b=none→some b≠row→w'.heap[b]? =w.heap[b]?
 fam:∀ f m N v,Fam pat own w f m N v→Fam pat own' w' f m N v
section
variable {F:Type} {pat:F→List Value} {own own' own'':OwnF F} {w w' w'':World} {row:Option Nat}
theorem OStep.trans (h:OStep pat own w own' w' row) (k:OStep pat own' w' own'' w'' row):OStep pat own w own'' w'' row:=
 ⟨k.os.trans h.os,k.tape.trans h.tape,k.output.trans h.output,Nat.le_trans h.size k.size,fun b hb=>(k.old b (Nat.lt_of_lt_of_le hb h.size)).trans (h.old b hb),k.dom,
   fun b hb h0 hr=>(k.kept b (Nat.lt_of_lt_of_le hb h.size) ((h.old b hb).trans h0) hr).trans (h.kept b hb h0 hr),fun f m N v hv=>k.fam f m N v (h.fam f m N v hv)⟩
theorem OStep.refl (hd:∀ b x,own b=some x→b<w.heap.size):OStep pat own w own w row:=⟨rfl,rfl,rfl,Nat.le_refl _,fun _ _=>rfl,hd,fun _ _ _ _=>rfl,fun _ _ _ _ h=>h⟩
theorem OStep.anyRow (h:OStep pat own w own' w' none):OStep pat own w own' w' row:=⟨h.os,h.tape,h.output,h.size,h.old,h.dom,fun b hb h0 _=>h.kept b hb h0 (by simp),h.fam⟩
theorem OStep.grown (hd:∀ b x,own b=some x→b<w.heap.size) (hg:w.grownBy w' row) (hr:∀ k,row=some k→own k=none):OStep pat own w own w' row:=
 ⟨hg.os,hg.tape,hg.output,hg.size,fun _ _=>rfl,fun b x h=>Nat.lt_of_lt_of_le (hd b x h) hg.size,fun b hb _ hne=>hg.block b hb hne,
   fun f m N v hv=>hv.heap fun b x h=>⟨h,hg.block b (hd b x h) fun e=>by rw [hr b e.symm] at h;cases h⟩⟩
theorem OStep.below {B:Nat} (h:OStep pat own w own' w' none) (hB:B≤w.heap.size) (hn:∀ b,b<B→own b=none):Below B w w':=
 ⟨h.os,h.tape,h.output,h.size,fun b hb=>h.kept b (by omega) (hn b hb) (by simp)⟩
theorem grown_alloc (w:World) (o:Obj):w.grownBy (w.alloc o) none:=⟨rfl,rfl,rfl,by simp,fun k hk _=>Below.heap_alloc w o k hk⟩
theorem grown_drew_alloc (w:World) (o:Obj):w.grownBy (w.drew.alloc o) none:=⟨rfl,rfl,rfl,by simp,fun k hk _=>Below.heap_alloc w.drew o k hk⟩
theorem grown_drew (w:World):w.grownBy w.drew none:=⟨rfl,rfl,rfl,Nat.le_refl _,fun _ _ _=>rfl⟩
theorem setCells_grown (b:Nat):∀ (vs:List Value) (o:Nat) (w:World),w.grownBy (w.setCells b o vs) (some b)
 |[],_,w=>⟨rfl,rfl,rfl,Nat.le_refl _,fun _ _ _=>rfl⟩
 |v::vs,o,w=>by
  have h:=setCells_grown b vs (o+1) (w.setCell ⟨b,o,none⟩ v)
  have hz:(w.setCell ⟨b,o,none⟩ v).heap.size=w.heap.size:=by simp [World.setCell]
  exact ⟨h.os,h.tape,h.output,by have:=h.size;rw [hz] at this;exact this,fun k hk hne=>(h.block k (by omega) hne).trans (Below.heap_setCell w ⟨b,o,none⟩ v k (fun e=>hne (by rw [e])))⟩
theorem OStep.write (hd:∀ b x,own b=some x→b<w.heap.size) {f:F} {b off k c:Nat} (hb:own b=some (f,off)) (ht:w.there b off (c*(pat f).length)) (hk:k<c):
 OStep pat own w own (w.setCells b (off+k*(pat f).length) (pat f)) none:=by
 have hg:=setCells_grown b (pat f) (off+k*(pat f).length) w
 exact ⟨hg.os,hg.tape,hg.output,hg.size,fun _ _=>rfl,fun b' x h=>Nat.lt_of_lt_of_le (hd b' x h) hg.size,
  fun b' hb' h0 _=>hg.block b' hb' (fun e=>by cases e;rw [hb] at h0;cases h0),fun f' m N v hv=>hv.write hb ht hk⟩
end
section
variable {F:Type} {pat:F→List Value} {own:OwnF F} {P:Program}
def reps (n:Nat) (l:List Value):List Value:=(List.replicate n l).flatten
theorem reps_length (l:List Value):∀ n,(reps n l).length=n*l.length
 |0=>by simp [reps]
 |n+1=>by
  have:=reps_length l n
  unfold reps at this ⊢
  rw [List.replicate_succ,List.flatten_cons,List.length_append,this,Nat.add_mul];omega
theorem reps_snoc (n:Nat) (l:List Value):reps n l++l=reps (n+1) l:=by
 unfold reps
 rw [List.replicate_succ',List.flatten_append];simp
theorem reps_get {l:List Value} {j:Nat} (hj:j<l.length):∀ {n k:Nat},k<n→(reps n l)[k*l.length+j]? =l[j]?
 |0,k,h=>by omega
 |n+1,0,_=>by
  unfold reps
  rw [List.replicate_succ,List.flatten_cons,Nat.zero_mul,Nat.zero_add,List.getElem?_append_left hj]
 |n+1,k+1,h=>by
  have:=reps_get hj (n:=n) (k:=k) (by omega)
  unfold reps at this ⊢
  rw [List.replicate_succ,List.flatten_cons,List.getElem?_append_right (by rw [Nat.add_mul];omega),←this]
  congr 1
  rw [Nat.add_mul];omega
theorem reps_out {l:List Value} (h0:0<l.length) {n j:Nat} {u:Value} (h:(reps n l)[j]? =some u):∃ k i,j=k*l.length+i∧k<n∧l[i]? =some u:=by
 have hj:=(List.getElem?_eq_some_iff.1 h).1
 rw [reps_length] at hj
 have hi:j%l.length<l.length:=Nat.mod_lt _ h0
 have hk:j/l.length<n:=(Nat.div_lt_iff_lt_mul h0).2 hj
 have e:j=j/l.length*l.length+j%l.length:=by rw [Nat.mul_comm];exact (Nat.div_add_mod j l.length).symm
 refine ⟨j/l.length,j%l.length,e,hk,?_⟩
 rw [←reps_get hi hk,←e];exact h
theorem fam_new {w w':World} {f:F} {n N:Nat} {v':Value} {e:TypeId} (_h0:0<(pat f).length) (hd:∀ b x,own b=some x→b<w.heap.size) (hg:w.grownBy w' none)
 (ho:w'.ownsRow w.heap.size e (pat f).length v' (n+1) (reps n (pat f)++pat f)) (hn:n+1≤N):
 ∃ own',OStep pat own w own' w' none∧Fam pat own' w' f N N v'∧∃ g c,v'= .slice (some ⟨g,0,none⟩) (n+1) c:=by
 rcases ho.2 with ⟨_,h⟩|⟨g,cap,cur,rfl,hbg,hgc,hnc,_,hcs,htk⟩
 ·omega
 ·have hgs:g<w'.heap.size:=(Array.getElem?_eq_some_iff.1 hgc).1
  refine ⟨fun b=>if b=g then some (f,0) else own b,⟨hg.os,hg.tape,hg.output,hg.size,fun b hb=>if_neg (by omega),fun b x h=>?_,fun b hb _ _=>hg.block b hb (by simp),fun f' m N v hv=>hv.heap fun b x h=>?_⟩,?_,g,cap,rfl⟩
  ·by_cases hb:b=g
   ·omega
   ·rw [if_neg hb] at h;exact Nat.lt_of_lt_of_le (hd b x h) hg.size
  ·have:=hd b x h
   exact ⟨by rw [if_neg (by omega)];exact h,hg.block b this (by simp)⟩
  ·refine .inr ⟨g,0,n+1,cap,rfl,if_pos rfl,hnc,hn,fun j hj=>⟨?_,?_⟩,fun k _ hk j x hx=>?_⟩
   ·unfold World.cell?
    rw [hgc]
    simp
    omega
   ·unfold World.frozen?
    rw [hgc]
    simp
   ·have hj:=(List.getElem?_eq_some_iff.1 hx).1
    rw [reps_snoc] at htk
    have h1:=reps_get hj hk
    rw [←htk,List.getElem?_take_of_lt (place_lt hj hk),Array.getElem?_toList,hx] at h1
    unfold World.cell?
    rw [hgc]
    simpa using h1
theorem run_append_fam (w:World) (t ty e:TypeId) (i:TypeInfo) (z:Value) (size bytes:Nat) (ht:P.underlying t=some (.slice e)) (hi:P.info? e=some i) (hz:i.zero=some z)
 (hsize:i.size=size) (hby:i.bytes=bytes) (hzs:z.cells.size=size) (hsz:0<size) (f:F) (hp:(pat f).length=size) (h1:∀ u∈pat f,u.oneCell'=true)
 (hd:∀ b x,own b=some x→b<w.heap.size) {N:Nat} {v:Value} (hv:Fam pat own w f N N v) (hN:N+1≤maxLen) (hNb:(N+1)*bytes≤140737488355328)
 (a:Addr) (hnews:∀ j u,(pat f)[j]? =some u→w.cell? (a.add j)=some u):
 ∃ v' w' own',(Builtin.append_ #[t,t] ty #[v,.slice (some a) 1 1]).run P w= .ok v' w'∧OStep pat own w own' w' none∧Fam pat own' w' f (N+1) (N+1) v'∧∃ g off n c,v'= .slice (some ⟨g,off,none⟩) (n+1) c:=by
 subst hsize
 have hp0:0<(pat f).length:=by omega
 rcases hv with rfl|⟨b,off,n,c,rfl,hb,hnc,hnN,hth,hm⟩
 ·obtain ⟨v',w',hr,h2,h3,_⟩:=run_append_own_at (P:=P) w w.heap.size t ty e i z i.size bytes ht hi hz rfl hby hzs hsz (.slice none 0 0) 0 [] (World.ownsRow_nil w _ e i.size) a 1 1 (pat f) (by omega) hnews h1 (by omega) (by have:=Nat.mul_le_mul_right bytes (show 0+1≤N+1 by omega);omega) (Nat.le_refl _)
  rw [←hp] at h2
  obtain ⟨own',s1,s2,g,c,s3⟩:=fam_new (n:=0) (N:=N+1) hp0 hd h3 (by simpa [reps] using h2) (by omega)
  exact ⟨v',w',own',hr,s1,s2,g,0,0,c,s3⟩
 ·by_cases hroom:n+1≤c
  ·have hth1:w.there b (off+n*(pat f).length) (pat f).length:=there_at hth (by omega)
   have hr:=run_append_room_cells (P:=P) w t ty e i ht hi b off n c a 1 1 (pat f) (by omega) hnews h1 hroom (fun j hj=>by rw [←hp];exact (hth1 j hj).1) (fun j hj=>by rw [←hp];exact (hth1 j hj).2)
   rw [←hp] at hr
   refine ⟨_,_,own,hr,OStep.write hd hb hth (by omega),?_,b,off,n,c,rfl⟩
   refine .inr ⟨b,off,n+1,c,rfl,hb,hroom,by omega,World.there_setCells hth _ _ _,fun k _ hk j x hx=>?_⟩
   have hj:=(List.getElem?_eq_some_iff.1 hx).1
   by_cases e:k=n
   ·subst e;exact setCells_in hth1 hx
   ·rw [World.cell?_setCells_out]
    ·exact hm k (by omega) (by omega) j x hx
    ·intro _ _
     have:=place_lt hj (show k<n by omega)
     exact .inl (by show off+k*(pat f).length+j<off+n*(pat f).length;omega)
  ·obtain ⟨v',w',hr,h2,h3⟩:=run_append_arg_grows (P:=P) w t ty e i z i.size bytes ht hi hz rfl hby hzs hsz ⟨b,off,none⟩ n c (reps n (pat f)) (by rw [reps_length,hp]) (fun j u hj=>by
    obtain ⟨k,i',rfl,hk,hx⟩:=reps_out hp0 hj
    rw [Addr.add_mid,←Nat.add_assoc]
    exact hm k (by omega) hk i' u hx) a 1 1 (pat f) (by omega) hnews (by omega) (by omega) (by have:=Nat.mul_le_mul_right bytes (show n+1≤N+1 by omega);omega)
   rw [←hp] at h2
   obtain ⟨own',s1,s2,g,c,s3⟩:=fam_new (n:=n) (N:=N+1) hp0 hd h3 h2 (by omega)
   exact ⟨v',w',own',hr,s1,s2,g,0,n,c,s3⟩
end
section
variable {F:Type} {pat:F→List Value} {own:OwnF F} {P:Program}
theorem wpList_append_fam (w:World) {ops:Array Oper} {rest:List Oper} {o:Oper} {a:Act} {Q:Exit→Act→World→Prop} (hgd:o.guard=none) (s x:Operand) (t:TypeId)
 (ho:o.op= .call {callee:= .builtin .append,args:=#[s,x],argTypes:=#[t,t]}) (e:TypeId) (i:TypeInfo) (z:Value) (size bytes:Nat) (ht:P.underlying t=some (.slice e)) (hi:P.info? e=some i) (hz:i.zero=some z)
 (hsize:i.size=size) (hby:i.bytes=bytes) (hzs:z.cells.size=size) (hsz:0<size) (f:F) (hp:(pat f).length=size) (h1:∀ u∈pat f,u.oneCell'=true)
 (hd:∀ b x,own b=some x→b<w.heap.size) (N:Nat) (v:Value) (hs:a.eval s=v) (hv:Fam pat own w f N N v) (hN:N+1≤maxLen) (hNb:(N+1)*bytes≤140737488355328)
 (ad:Addr) (hx:a.eval x= .slice (some ad) 1 1) (hnews:∀ j u,(pat f)[j]? =some u→w.cell? (ad.add j)=some u)
 (h:∀ v' w' own',OStep pat own w own' w' none→Fam pat own' w' f (N+1) (N+1) v'→(∃ g off n c,v'= .slice (some ⟨g,off,none⟩) (n+1) c)→wpList P ops Q rest (a.put o.dst v') w'):
 wpList P ops Q (o::rest) a w:=by
 refine wpList_plain hgd fun K hK=>?_
 obtain ⟨v',w',own',hr,h2,h3,h4⟩:=run_append_fam (P:=P) w t o.type e i z size bytes ht hi hz hsize hby hzs hsz f hp h1 hd hv hN hNb ad hnews
 unfold Oper.wp execOp
 simp only [ho,resolve,invoke,builtin,Sem.run_bind,Sem.run_pure,Result.andThen_ok,List.map_toArray,List.map_cons,List.map_nil,hs,hx,hr]
 exact hK _ _ (h v' w' own' h2 h3 h4)
def RowR (B:Nat) (own:OwnF F) (w:World) (v:Value) (xs:List Value):Prop:=
 ∃ p c,v= .slice p xs.length c∧∀ t x,xs[t]? =some x→∃ kb,p=some ⟨kb,0,none⟩∧kb<B∧own kb=none∧w.cell? ⟨kb,t,none⟩=some x
theorem RowR.step {B:Nat} {own own':OwnF F} {w w':World} {row:Option Nat} {v:Value} {xs:List Value} (h:RowR B own w v xs) (k:OStep pat own w own' w' row) (hB:B≤w.heap.size) (hr:∀ r,row=some r→B≤r):RowR B own' w' v xs:=by
 obtain ⟨p,c,h1,h2⟩:=h
 refine ⟨p,c,h1,fun t x hx=>?_⟩
 obtain ⟨kb,e,hlt,ho,hc⟩:=h2 t x hx
 have hl:kb<w.heap.size:=by omega
 exact ⟨kb,e,hlt,(k.old kb hl).trans ho,(World.cell?_of_block (a:=⟨kb,t,none⟩) (k.kept kb hl ho (fun e=>by have:=hr kb e.symm;omega))).trans hc⟩
theorem RowR.raise {B B':Nat} {own:OwnF F} {w:World} {v:Value} {xs:List Value} (h:RowR B own w v xs) (hB:B≤B'):RowR B' own w v xs:=by
 obtain ⟨p,c,h1,h2⟩:=h
 refine ⟨p,c,h1,fun t x hx=>?_⟩
 obtain ⟨kb,e,hlt,ho,hc⟩:=h2 t x hx
 exact ⟨kb,e,by omega,ho,hc⟩
theorem RowR.of_row {B:Nat} {own:OwnF F} {w:World} {e:TypeId} {v:Value} {xs:List Value} (h:w.ownsRow B e 1 v xs.length xs) (hn:∀ b,v.ownBlock=some b→own b=none):RowR w.heap.size own w v xs:=by
 rcases h.2 with ⟨rfl,h0⟩|⟨g,cap,cur,rfl,_,hg,_,_,_,htk⟩
 ·exact ⟨none,0,by rw [h0],fun t x hx=>by rw [List.eq_nil_of_length_eq_zero h0] at hx;simp at hx⟩
 ·refine ⟨_,cap,rfl,fun t x hx=>⟨g,rfl,(Array.getElem?_eq_some_iff.1 hg).1,hn g rfl,?_⟩⟩
  exact (World.ownsRow.cellAt h t (by have:=(List.getElem?_eq_some_iff.1 hx).1;omega)).trans hx
theorem OStep.transRow {own own' own'':OwnF F} {w w' w'':World} {row:Option Nat} (h:OStep pat own w own' w' none) (k:OStep pat own' w' own'' w'' row) (hr:∀ r,row=some r→w.heap.size≤r):OStep pat own w own'' w'' none:=
 ⟨k.os.trans h.os,k.tape.trans h.tape,k.output.trans h.output,Nat.le_trans h.size k.size,fun b hb=>(k.old b (Nat.lt_of_lt_of_le hb h.size)).trans (h.old b hb),k.dom,
   fun b hb h0 _=>(k.kept b (Nat.lt_of_lt_of_le hb h.size) ((h.old b hb).trans h0) (fun e=>by have:=hr b e.symm;omega)).trans (h.kept b hb h0 (by simp)),fun f m N v hv=>k.fam f m N v (h.fam f m N v hv)⟩
theorem Fam.full {w:World} {f:F} {m m' N:Nat} {p:Option Addr} {n c:Nat} (h:Fam pat own w f m N (.slice p n c)) (hm:n≤m):Fam pat own w f m' N (.slice p n c):=by
 rcases h with h|⟨b,off,n',c',h1,h2,h3,h4,h5,h6⟩
 ·exact .inl h
 ·cases h1
  exact .inr ⟨b,off,n,c,rfl,h2,h3,h4,h5,fun k _ hn=>h6 k (by omega) hn⟩
theorem Fam.to {w:World} {f:F} {m N N':Nat} {v:Value} (h:Fam pat own w f m N v) (hm:N≤m) (hN:N≤N') (m':Nat):Fam pat own w f m' N' v:=by
 rcases h with h|⟨b,off,n',c',h1,h2,h3,h4,h5,h6⟩
 ·exact .inl h
 ·exact .inr ⟨b,off,n',c',h1,h2,h3,by omega,h5,fun k _ hn=>h6 k (by omega) hn⟩
theorem Fam.shape {w:World} {f:F} {m N:Nat} {v:Value} (h:Fam pat own w f m N v):∃ p n c,v= .slice p n c∧n≤N∧(0<n→∃ b off,p=some ⟨b,off,none⟩∧own b=some (f,off)∧n≤c∧w.there b off (c*(pat f).length)∧∀ k,k<m→k<n→∀ j x,(pat f)[j]? =some x→w.cell? ⟨b,off+k*(pat f).length+j,none⟩=some x):=by
 rcases h with h|⟨b,off,n',c',h1,h2,h3,h4,h5,h6⟩
 ·exact ⟨none,0,0,h,Nat.zero_le _,fun h=>by omega⟩
 ·exact ⟨_,n',c',h1,h4,fun _=>⟨b,off,rfl,h2,h3,h5,h6⟩⟩
end
theorem own_of {F:Type} (pat:F→List Value) (w:World) (L:F→Option Value) (ha:∀ f g v u b,L f=some v→L g=some u→v.ownBlock=some b→u.ownBlock=some b→f=g)
 (hr:∀ f v,L f=some v→v= .slice none 0 0∨∃ b off n c,v= .slice (some ⟨b,off,none⟩) n c∧b<w.heap.size∧n≤c∧w.there b off (c*(pat f).length)):
 ∃ own:OwnF F,(∀ b x,own b=some x→b<w.heap.size∧∃ v,L x.1=some v∧v.ownBlock=some b)∧∀ f v N,L f=some v→(∀ p n c,v= .slice p n c→n≤N)→Fam pat own w f 0 N v:=by
 classical
 let own:OwnF F:=fun b=>if h:∃ x:F×Nat,∃ n c,L x.1=some (.slice (some ⟨b,x.2,none⟩) n c) then some (Classical.choose h) else none
 have hown:∀ f b off n c,L f=some (.slice (some ⟨b,off,none⟩) n c)→own b=some (f,off):=by
  intro f b off n c hL
  have hex:∃ x:F×Nat,∃ n c,L x.1=some (.slice (some ⟨b,x.2,none⟩) n c):=⟨(f,off),n,c,hL⟩
  show (if h:_ then _ else _)=_
  rw [dif_pos hex]
  obtain ⟨n',c',h'⟩:=Classical.choose_spec hex
  have e:(Classical.choose hex).1=f:=ha _ _ _ _ b h' hL rfl rfl
  rw [e,hL] at h'
  simp only [Option.some.injEq,Value.slice.injEq,Addr.mk.injEq,true_and,and_true] at h'
  exact congrArg some (Prod.ext e h'.1.symm)
 refine ⟨own,fun b x hx=>?_,fun f v N hL hN=>?_⟩
 ·have hx':(if h:∃ x:F×Nat,∃ n c,L x.1=some (.slice (some ⟨b,x.2,none⟩) n c) then some (Classical.choose h) else none)=some x:=hx
  by_cases hex:∃ x:F×Nat,∃ n c,L x.1=some (.slice (some ⟨b,x.2,none⟩) n c)
  ·rw [dif_pos hex] at hx'
   obtain ⟨n',c',h'⟩:=Classical.choose_spec hex
   rw [Option.some.inj hx'] at h'
   refine ⟨?_,_,h',rfl⟩
   rcases hr _ _ h' with h|⟨b',off,n,c,h,hb,_⟩
   ·cases h
   ·cases h;exact hb
  ·rw [dif_neg hex] at hx';cases hx'
 ·rcases hr f v hL with h|⟨b,off,n,c,rfl,hb,hnc,hth⟩
  ·exact .inl h
  ·exact .inr ⟨b,off,n,c,rfl,hown f b off n c hL,hnc,hN _ _ _ rfl,hth,fun k hk=>by omega⟩
def OL (w:World):Nat→Value→List VT→List Value→Prop
 |0,_,_,_=>False
 |n+1,v,ts,vs=>(ts=[]∧v= .slice none 0 0∧vs=[v])∨
   ∃ g c vss,v= .slice (some ⟨g,0,none⟩) ts.length c∧g<w.heap.size∧ts.length≤c∧ts.length≤maxLen∧w.there g 0 (c*5)∧vss.length=ts.length∧vs=List.flatten vss++[v]∧
     ∀ (i:Nat) (t:VT) (us:List Value),ts[i]? =some t→vss[i]? =some us→t.Fine∧∃ lv,At5 w g (i*5) t lv∧OL w n lv t.list us
def Blk (lo hi:Nat) (vs:List Value):Prop:=∀ v∈vs,∀ b,v.ownBlock=some b→lo≤b∧b<hi
def ApartV (vs:List Value):Prop:=vs.Pairwise fun a b=>∀ x,a.ownBlock=some x→b.ownBlock≠some x
section
variable {w w':World} {n:Nat} {v:Value} {ts:List VT} {vs us:List Value} {lo hi lo' hi':Nat}
theorem At5.heap {b o:Nat} {t:VT} {lv:Value} (h:At5 w b o t lv) (he:w'.heap[b]? =w.heap[b]?):At5 w' b o t lv:=
 have k:∀ o,w'.cell? ⟨b,o,none⟩=w.cell? ⟨b,o,none⟩:=fun o=>World.cell?_of_block (a:=⟨b,o,none⟩) he
 ⟨(k _).trans h.kind,(k _).trans h.num,(k _).trans h.text,(k _).trans h.list,(k _).trans h.elem⟩
theorem OL.last (h:OL w n v ts vs):v∈vs:=by
 cases n with
 |zero=>exact h.elim
 |succ n=>
  rcases h with ⟨_,_,rfl⟩|⟨g,c,vss,_,_,_,_,_,_,rfl,_⟩<;>simp
theorem OL.heap (hz:w.heap.size≤w'.heap.size):∀ {n:Nat} {v:Value} {ts:List VT} {vs:List Value},OL w n v ts vs→(∀ u∈vs,∀ b,u.ownBlock=some b→w'.heap[b]? =w.heap[b]?)→OL w' n v ts vs
 |0,_,_,_,h,_=>h
 |n+1,v,ts,vs,h,he=>by
  have hl:=OL.last h
  rcases h with h|⟨g,c,vss,rfl,h2,h3,h4,h5,h6,rfl,h8⟩
  ·exact .inl h
  ·have hg:w'.heap[g]? =w.heap[g]? :=he _ hl g rfl
   refine .inr ⟨g,c,vss,rfl,Nat.lt_of_lt_of_le h2 hz,h3,h4,there_heap h5 hg,h6,rfl,fun i t us ht hu=>?_⟩
   obtain ⟨hf,lv,ha,ho⟩:=h8 i t us ht hu
   exact ⟨hf,lv,ha.heap hg,OL.heap hz ho fun u hm b hb=>he u (List.mem_append_left _ (List.mem_flatten.2 ⟨us,List.mem_of_getElem? hu,hm⟩)) b hb⟩
theorem OL.lt:∀ {n:Nat} {v:Value} {ts:List VT} {vs:List Value},OL w n v ts vs→∀ u∈vs,∀ b,u.ownBlock=some b→b<w.heap.size
 |0,_,_,_,h,_,_,_,_=>h.elim
 |n+1,v,ts,vs,h,u,hu,b,hb=>by
  rcases h with ⟨_,rfl,rfl⟩|⟨g,c,vss,rfl,h2,h3,h4,h5,h6,rfl,h8⟩
  ·rw [List.mem_singleton.1 hu] at hb;simp [Value.ownBlock] at hb
  ·rcases List.mem_append.1 hu with hu|hu
   ·obtain ⟨us,hus,hm⟩:=List.mem_flatten.1 hu
    obtain ⟨i,hi⟩:=List.getElem?_of_mem hus
    obtain ⟨t,ht⟩:∃ t,ts[i]? =some t:=⟨_,List.getElem?_eq_getElem (by rw [←h6];exact (List.getElem?_eq_some_iff.1 hi).1)⟩
    obtain ⟨_,lv,_,ho⟩:=h8 i t us ht hi
    exact OL.lt ho u hm b hb
   ·rw [List.mem_singleton.1 hu] at hb
    simp [Value.ownBlock] at hb
    omega
theorem OL.below (h:OL w n v ts vs) (hb:Below w.heap.size w w'):OL w' n v ts vs:=h.heap hb.size fun u hu b hb'=>hb.block b (h.lt u hu b hb')
theorem OL.lat:∀ {n:Nat} {v:Value} {ts:List VT} {vs:List Value},OL w n v ts vs→LAt w.heap.size w n v ts
 |0,_,_,_,h=>h
 |n+1,v,ts,vs,h=>by
  rcases h with ⟨h1,h2,_⟩|⟨g,c,vss,rfl,h2,h3,h4,h5,h6,rfl,h8⟩
  ·exact .inl ⟨h1,none,0,h2⟩
  ·refine .inr ⟨g,0,c,rfl,h2,h4,fun i t ht=>?_⟩
   obtain ⟨us,hu⟩:∃ us,vss[i]? =some us:=⟨_,List.getElem?_eq_getElem (by rw [h6];exact (List.getElem?_eq_some_iff.1 ht).1)⟩
   obtain ⟨hf,lv,ha,ho⟩:=h8 i t us ht hu
   exact ⟨hf,lv,by rw [Nat.zero_add];exact ha,OL.lat ho⟩
theorem OL.mono:∀ {n m:Nat} {v:Value} {ts:List VT} {vs:List Value},n≤m→OL w n v ts vs→OL w m v ts vs
 |0,_,_,_,_,_,h=>h.elim
 |n+1,0,_,_,_,hn,_=>by omega
 |n+1,m+1,v,ts,vs,hn,h=>by
  rcases h with h|⟨g,c,vss,rfl,h2,h3,h4,h5,h6,rfl,h8⟩
  ·exact .inl h
  ·refine .inr ⟨g,c,vss,rfl,h2,h3,h4,h5,h6,rfl,fun i t us ht hu=>?_⟩
   obtain ⟨hf,lv,ha,ho⟩:=h8 i t us ht hu
   exact ⟨hf,lv,ha,OL.mono (by omega) ho⟩
theorem OL.slice (h:OL w n v ts vs):∃ p c,v= .slice p ts.length c:=by
 cases n with
 |zero=>exact h.elim
 |succ n=>
  rcases h with ⟨rfl,rfl,_⟩|⟨g,c,vss,rfl,_⟩
  ·exact ⟨none,0,rfl⟩
  ·exact ⟨_,c,rfl⟩
theorem OL.nil (w:World) (n:Nat):OL w (n+1) (.slice none 0 0) [] [.slice none 0 0]:= .inl ⟨rfl,rfl,rfl⟩
theorem OL.rows:∀ {n:Nat} {v:Value} {ts:List VT} {vs:List Value},OL w n v ts vs→∀ u∈vs,u= .slice none 0 0∨∃ g k c,u= .slice (some ⟨g,0,none⟩) k c∧g<w.heap.size∧k≤c∧w.there g 0 (c*5)
 |0,_,_,_,h,_,_=>h.elim
 |n+1,v,ts,vs,h,u,hu=>by
  rcases h with ⟨_,rfl,rfl⟩|⟨g,c,vss,rfl,h2,h3,h4,h5,h6,rfl,h8⟩
  ·exact .inl (List.mem_singleton.1 hu)
  ·rcases List.mem_append.1 hu with hu|hu
   ·obtain ⟨us,hus,hm⟩:=List.mem_flatten.1 hu
    obtain ⟨i,hi⟩:=List.getElem?_of_mem hus
    obtain ⟨t,ht⟩:∃ t,ts[i]? =some t:=⟨_,List.getElem?_eq_getElem (by rw [←h6];exact (List.getElem?_eq_some_iff.1 hi).1)⟩
    obtain ⟨_,lv,_,ho⟩:=h8 i t us ht hi
    exact OL.rows ho u hm
   ·exact .inr ⟨g,_,c,List.mem_singleton.1 hu,h2,h3,h5⟩
theorem Blk.mono (h:Blk lo hi vs) (h1:lo'≤lo) (h2:hi≤hi'):Blk lo' hi' vs:=fun v hv b hb=>by have:=h v hv b hb;omega
theorem Blk.append (h:Blk lo hi vs) (k:Blk lo hi us):Blk lo hi (vs++us):=fun v hv b hb=>(List.mem_append.1 hv).elim (fun hv=>h v hv b hb) (fun hv=>k v hv b hb)
theorem ApartV.append (h:ApartV vs) (k:ApartV us) {m:Nat} (hv:Blk lo m vs) (hu:Blk m hi us):ApartV (vs++us):=by
 refine List.pairwise_append.2 ⟨h,k,fun a ha b hb x hx hx'=>?_⟩
 have:=hv a ha x hx
 have:=hu b hb x hx'
 omega
theorem ApartV.append' (h:ApartV vs) (k:ApartV us) {lo2 hi2:Nat} (hv:Blk lo hi vs) (hu:Blk lo2 hi2 us) (hd:hi≤lo2∨hi2≤lo):ApartV (vs++us):=by
 refine List.pairwise_append.2 ⟨h,k,fun a ha b hb x hx hx'=>?_⟩
 have:=hv a ha x hx
 have:=hu b hb x hx'
 omega
theorem ApartV.snoc (h:ApartV vs) (hn:∀ u∈vs,∀ b,u.ownBlock=some b→v.ownBlock≠some b):ApartV (vs++[v]):=
 List.pairwise_append.2 ⟨h,List.pairwise_singleton _ _,fun a ha b hb x hx=>by rw [List.mem_singleton.1 hb];exact hn a ha x hx⟩
theorem ApartV.nil:ApartV []:=List.Pairwise.nil
theorem ApartV.one (v:Value):ApartV [v]:=List.pairwise_singleton _ _
theorem Blk.nil (lo hi:Nat):Blk lo hi []:=fun v hv=>by cases hv
theorem Blk.none (lo hi:Nat):Blk lo hi [.slice .none 0 0]:=fun v hv b hb=>by rw [List.mem_singleton.1 hv] at hb;simp [Value.ownBlock] at hb
end
def cellsL (xs:List (VT×Value)):List Value:=xs.flatMap fun x=>x.1.cells x.2
theorem vt_cells_len (t:VT) (lv:Value):(t.cells lv).length=5:=rfl
theorem cellsL_length (xs:List (VT×Value)):(cellsL xs).length=xs.length*5:=by
 induction xs with
 |nil=>rfl
 |cons x r ih=>
  show (x.1.cells x.2++cellsL r).length=_
  rw [List.length_append,ih,vt_cells_len,List.length_cons];omega
theorem cellsL_at:∀ {xs:List (VT×Value)} {i:Nat} {x:VT×Value},xs[i]? =some x→∀ j,j<5→(cellsL xs)[i*5+j]? =(x.1.cells x.2)[j]?
 |[],i,x,h,_,_=>by simp at h
 |y::r,0,x,h,j,hj=>by
  simp at h;subst h
  show ((y.1.cells y.2)++cellsL r)[_]? =_
  rw [Nat.zero_mul,Nat.zero_add,List.getElem?_append_left (by rw [vt_cells_len];exact hj)]
 |y::r,i+1,x,h,j,hj=>by
  show ((y.1.cells y.2)++cellsL r)[_]? =_
  rw [List.getElem?_append_right (by rw [vt_cells_len];omega),vt_cells_len,show (i+1)*5+j-5=i*5+j by omega]
  exact cellsL_at (by simpa using h) j hj
theorem cellsL_out {xs:List (VT×Value)} {j:Nat} {u:Value} (h:(cellsL xs)[j]? =some u):∃ i k x,j=i*5+k∧k<5∧xs[i]? =some x∧(x.1.cells x.2)[k]? =some u:=by
 have hj:=(List.getElem?_eq_some_iff.1 h).1
 rw [cellsL_length] at hj
 have hi:j/5<xs.length:=by omega
 obtain ⟨x,hx⟩:∃ x,xs[j/5]? =some x:=⟨_,List.getElem?_eq_getElem hi⟩
 refine ⟨j/5,j%5,x,by omega,by omega,hx,?_⟩
 rw [←cellsL_at hx (j%5) (by omega),show j/5*5+j%5=j by omega];exact h
theorem cellsL_one {xs:List (VT×Value)} (hs:∀ x∈xs,∃ p n c,x.2= .slice p n c):∀ u∈cellsL xs,u.oneCell'=true:=by
 intro u hu
 obtain ⟨j,hj⟩:=List.getElem?_of_mem hu
 obtain ⟨i,k,x,_,hk,hx,hc⟩:=cellsL_out hj
 obtain ⟨p,n,c,e⟩:=hs x (List.mem_of_getElem? hx)
 match k,hk,hc with
 |0,_,hc=>cases hc;rfl
 |1,_,hc=>cases hc;rfl
 |2,_,hc=>cases hc;rfl
 |3,_,hc=>cases hc;rw [e];rfl
 |4,_,hc=>cases hc;rfl
theorem LAt.open {B:Nat} {w:World} {n:Nat} {v:Value} {ts:List VT} (h:LAt B w (n+1) v ts):
 ∃ (xs:List (VT×Value)) (p:Option Addr) (c:Nat),xs.map (·.1)=ts∧v= .slice p xs.length c∧∀ (i:Nat) (x:VT×Value),xs[i]? =some x→x.1.Fine∧LAt B w n x.2 x.1.list∧∃ b off,p=some ⟨b,off,none⟩∧b<B∧At5 w b (off+i*5) x.1 x.2:=by
 rcases h with ⟨rfl,p,c,rfl⟩|⟨b,off,c,rfl,hb,_,hel⟩
 ·exact ⟨[],p,c,rfl,rfl,fun i x h=>by simp at h⟩
 ·have:∀ m,m≤ts.length→∃ xs:List (VT×Value),xs.map (·.1)=ts.take m∧∀ (i:Nat) (x:VT×Value),xs[i]? =some x→x.1.Fine∧LAt B w n x.2 x.1.list∧At5 w b (off+i*5) x.1 x.2:=by
   intro m
   induction m with
   |zero=>exact fun _=>⟨[],by simp,fun i x h=>by simp at h⟩
   |succ m ih=>
    intro hm
    obtain ⟨xs,h1,h2⟩:=ih (by omega)
    have hlen:xs.length=m:=by have:=congrArg List.length h1;simp at this;omega
    obtain ⟨t,ht⟩:∃ t,ts[m]? =some t:=⟨_,List.getElem?_eq_getElem (by omega)⟩
    obtain ⟨hf,lv,ha,hl⟩:=hel m t ht
    refine ⟨xs++[(t,lv)],by rw [List.map_append,h1,List.take_add_one,ht];rfl,fun i x hx=>?_⟩
    rcases Nat.lt_or_ge i xs.length with hlt|hge
    ·rw [List.getElem?_append_left hlt] at hx;exact h2 i x hx
    ·rw [List.getElem?_append_right hge] at hx
     have e0:i-xs.length=0:=by have:=(List.getElem?_eq_some_iff.1 hx).1;simp at this;omega
     rw [e0] at hx
     simp at hx
     subst hx
     have:i=m:=by omega
     subst this
     exact ⟨hf,hl,ha⟩
  obtain ⟨xs,h1,h2⟩:=this ts.length (Nat.le_refl _)
  rw [List.take_length] at h1
  have hlen:ts.length=xs.length:=by rw [←h1,List.length_map]
  exact ⟨xs,_,c,h1,by rw [hlen],fun i x hx=>let ⟨a,b',c'⟩:=h2 i x hx;⟨a,b',b,off,rfl,hb,c'⟩⟩
def Box (w:World) (b:Nat) (cs:List Value):Prop:=Cells w b 0 cs∧w.there b 0 cs.length
section
variable {w w':World} {b:Nat} {cs vs:List Value}
theorem Box.new (w:World) (cs:List Value) (T:TypeId):Box (w.alloc (.cells cs.toArray T)) w.heap.size cs:=by
 have h:(w.alloc (.cells cs.toArray T)).heap[w.heap.size]? =some (.cells cs.toArray T (0,0)):=heap_alloc_new _ _
 refine ⟨Cells.of_heap h,fun j hj=>⟨?_,by unfold World.frozen?;rw [h];simp⟩⟩
 rw [Nat.zero_add]
 unfold World.cell?
 rw [h]
 simpa using hj
theorem Box.heap (h:Box w b cs) (he:w'.heap[b]? =w.heap[b]?):Box w' b cs:=
 ⟨fun j u hu=>(World.cell?_of_block (a:=⟨b,_,none⟩) he).trans (h.1 j u hu),there_heap h.2 he⟩
theorem Box.below {B:Nat} (h:Box w b cs) (hb:Below B w w') (hlt:b<B):Box w' b cs:=h.heap (hb.block b hlt)
theorem Box.cell (h:Box w b cs) {j:Nat} {u:Value} (hu:cs[j]? =some u):w.cell? ⟨b,j,none⟩=some u:=by
 have:=h.1 j u hu
 rwa [Nat.zero_add] at this
theorem Box.froz (h:Box w b cs) {j:Nat} (hj:j<cs.length):w.frozen? ⟨b,j,none⟩=false:=by
 have:=(h.2 j hj).2
 rwa [Nat.zero_add] at this
theorem Box.part (h:Box w b cs) {o n:Nat} (hn:o+n≤cs.length):w.there b o n:=fun j hj=>by
 have:=h.2 (o+j) (by omega)
 rwa [Nat.zero_add] at this
theorem Box.set (h:Box w b cs) {o:Nat} (ho:o+vs.length≤cs.length) {cs':List Value} (hl:cs'.length=cs.length) (h1:∀ j u,vs[j]? =some u→cs'[o+j]? =some u) (h2:∀ j,j<o∨o+vs.length≤j→cs'[j]? =cs[j]?):Box (w.setCells b o vs) b cs':=by
 refine ⟨fun j u hu=>?_,by rw [hl];exact World.there_setCells h.2 _ _ _⟩
 rw [Nat.zero_add]
 by_cases hj:j<o∨o+vs.length≤j
 ·rw [World.cell?_setCells_out _ _ _ _ _ (fun _ _=>hj)]
  exact h.cell ((h2 j hj).symm.trans hu)
 ·obtain ⟨v,hv⟩:∃ v,vs[j-o]? =some v:=⟨_,List.getElem?_eq_getElem (by omega)⟩
  have e:=h1 (j-o) v hv
  rw [show o+(j-o)=j by omega] at e
  rw [e] at hu
  cases hu
  have:=setCells_in (h.part ho) hv
  rwa [show o+(j-o)=j by omega] at this
theorem Box.all (h:Box w b cs) (hl:vs.length=cs.length):Box (w.setCells b 0 vs) b vs:=
 h.set (by omega) hl (fun j u hu=>by rw [Nat.zero_add];exact hu) (fun j hj=>by
  have hj:cs.length≤j:=by omega
  rw [List.getElem?_eq_none (by omega),List.getElem?_eq_none hj])
theorem setCells_below' {B:Nat} (hb:B≤b) (o:Nat) (vs:List Value):Below B w (w.setCells b o vs):=by
 have hg:=setCells_grown b vs o w
 exact ⟨hg.os,hg.tape,hg.output,hg.size,fun k hk=>by
  rcases Nat.lt_or_ge k w.heap.size with h|h
  ·exact hg.block k h (fun e=>by cases e;omega)
  ·have hz:(w.setCells b o vs).heap.size=w.heap.size:=setCells_size w b vs o w
   rw [Array.getElem?_eq_none (by omega),Array.getElem?_eq_none (by omega)]⟩
theorem setCells_other {k:Nat} (hk:k≠b) (o:Nat) (vs:List Value):(w.setCells b o vs).heap[k]? =w.heap[k]? :=by
 rcases Nat.lt_or_ge k w.heap.size with h|h
 ·exact (setCells_grown b vs o w).block k h (fun e=>hk (by cases e;rfl))
 ·have hz:(w.setCells b o vs).heap.size=w.heap.size:=setCells_size w b vs o w
  rw [Array.getElem?_eq_none (by omega),Array.getElem?_eq_none (by omega)]
theorem setCells_sz (w:World) (b o:Nat) (vs:List Value):(w.setCells b o vs).heap.size=w.heap.size:=setCells_size w b vs o w
end
theorem resultsMid {P:Program} {fn:Func} {p:Tmp} {ty:TypeId} {tmps:Array Value} {w:World} {g:Nat} {v:Value} (h:fn.results= #[.cell p ty]) (hp:tmps.getD p undef= .pointer (some ⟨g,0,none⟩)) (hld:(loadVar ty ⟨g,0,none⟩).run P w= .ok v w):
 (results fn tmps).run P w= .ok v w:=by
 have hp':tmps[p]?.getD undef= .pointer (some ⟨g,0,none⟩):=by simpa using hp
 simp [results,h,hp',asAddr,hld]
structure CRel (g c:Nat) (xs:List (VT×Value)) (N:Nat) (W:World) (j:Nat) (w:World):Prop where
 below:Below g W w
 glt:g<w.heap.size
 there:w.there g 0 (c*5)
 done:∃ vss:List (List Value),vss.length=j∧Blk (g+1) w.heap.size vss.flatten∧ApartV vss.flatten∧∀ (i:Nat) (x:VT×Value) (us:List Value),xs[i]? =some x→vss[i]? =some us→∃ lv,At5 w g (i*5) x.1 lv∧OL w N lv x.1.list us
 rest:∀ (i:Nat) (x:VT×Value),j≤i→xs[i]? =some x→At5 w g (i*5) x.1 x.2
theorem at5_of_setCells {w:World} {b o:Nat} {t:VT} {lv:Value} (ht:w.there b o 5):At5 (w.setCells b o (t.cells lv)) b o t lv:=by
 have k:∀ j u,(t.cells lv)[j]? =some u→(w.setCells b o (t.cells lv)).cell? ⟨b,o+j,none⟩=some u:=fun j u hu=>setCells_in (vs:=t.cells lv) ht hu
 exact ⟨k 0 _ rfl,k 1 _ rfl,k 2 _ rfl,k 3 _ rfl,k 4 _ rfl⟩
theorem at5_out {w:World} {b o o':Nat} {t:VT} {lv:Value} {vs:List Value} (h:At5 w b o t lv) (ho:o+5≤o'∨o'+vs.length≤o):At5 (w.setCells b o' vs) b o t lv:=by
 have k:∀ j,j<5→(w.setCells b o' vs).cell? ⟨b,o+j,none⟩=w.cell? ⟨b,o+j,none⟩:=fun j hj=>World.cell?_setCells_out _ _ _ _ _ (fun _ _=>by
  rcases ho with ho|ho
  ·exact .inl (by show o+j<o';omega)
  ·exact .inr (by show o'+vs.length≤o+j;omega))
 exact ⟨(k 0 (by omega)).trans h.kind,(k 1 (by omega)).trans h.num,(k 2 (by omega)).trans h.text,(k 3 (by omega)).trans h.list,(k 4 (by omega)).trans h.elem⟩
theorem CRel.step {g c:Nat} {xs:List (VT×Value)} {N:Nat} {W w w2:World} {j:Nat} (h:CRel g c xs N W j w) {x:VT×Value} (hx:xs[j]? =some x) (hjc:j<c) {lv:Value} {us:List Value} (hb:Below w.heap.size w w2) (ho:OL w2 N lv x.1.list us) (hbk:Blk w.heap.size w2.heap.size us) (hap:ApartV us):
 CRel g c xs N W (j+1) (w2.setCells g (j*5) (x.1.cells lv)):=by
 obtain ⟨vss,h1,h2,h3,h4⟩:=h.done
 have hth:w2.there g 0 (c*5):=there_heap h.there (hb.block g h.glt)
 have hj5:w2.there g (j*5) 5:=fun k hk=>by
  have:=hth (j*5+k) (by omega)
  rwa [Nat.zero_add] at this
 have hz:(w2.setCells g (j*5) (x.1.cells lv)).heap.size=w2.heap.size:=setCells_sz ..
 have hgl:=h.glt
 have hsz:=hb.size
 refine ⟨(h.below.trans (hb.mono (by omega))).trans (setCells_below' (Nat.le_refl _) _ _),by rw [hz];omega,World.there_setCells hth _ _ _,⟨vss++[us],by simp [h1],?_,?_,fun i y vs hy hv=>?_⟩,fun i y hi hy=>?_⟩
 ·rw [hz,List.flatten_append]
  exact (h2.mono (Nat.le_refl _) hsz).append (by simpa using hbk.mono (by omega) (Nat.le_refl _))
 ·rw [List.flatten_append]
  exact h3.append (by simpa using hap) h2 (by simpa using hbk)
 ·rcases Nat.lt_or_ge i vss.length with hlt|hge
  ·rw [List.getElem?_append_left hlt] at hv
   obtain ⟨lv',ha,ho'⟩:=h4 i y vs hy hv
   refine ⟨lv',at5_out (ha.heap (hb.block g hgl)) (.inl (by omega)),(ho'.below hb).heap (by omega) fun u hu b hb'=>setCells_other (fun e=>?_) _ _⟩
   have:=h2 u (List.mem_flatten.2 ⟨vs,List.mem_of_getElem? hv,hu⟩) b hb'
   omega
  ·rw [List.getElem?_append_right hge] at hv
   have e0:i-vss.length=0:=by have:=(List.getElem?_eq_some_iff.1 hv).1;simp at this;omega
   rw [e0] at hv
   simp at hv
   subst hv
   obtain rfl:i=j:=by omega
   rw [hx] at hy
   cases hy
   refine ⟨lv,at5_of_setCells hj5,ho.heap (by omega) fun u hu b hb'=>setCells_other (fun e=>?_) _ _⟩
   have:=hbk u hu b hb'
   omega
 ·exact at5_out ((h.rest i y (by omega) hy).heap (hb.block g hgl)) (.inr (by rw [vt_cells_len];omega))
theorem CRel.all {g c:Nat} {xs:List (VT×Value)} {N:Nat} {W w:World} (h:CRel g c xs N W xs.length w) (hc:xs.length≤c) (hm:xs.length≤maxLen) (hf:∀ (i:Nat) (x:VT×Value),xs[i]? =some x→x.1.Fine):
 ∃ us,OL w (N+1) (.slice (some ⟨g,0,none⟩) xs.length c) (xs.map (·.1)) us∧Blk g w.heap.size us∧ApartV us:=by
 obtain ⟨vss,h1,h2,h3,h4⟩:=h.done
 have hgl:=h.glt
 have hbl:Blk g w.heap.size (vss.flatten++[.slice (some ⟨g,0,none⟩) xs.length c]):=(h2.mono (by omega) (Nat.le_refl _)).append fun v hv b hb=>by
  rw [List.mem_singleton.1 hv] at hb
  simp [Value.ownBlock] at hb
  omega
 refine ⟨vss.flatten++[.slice (some ⟨g,0,none⟩) xs.length c],.inr ⟨g,c,vss,by rw [List.length_map],h.glt,by rw [List.length_map];exact hc,by rw [List.length_map];exact hm,h.there,by rw [List.length_map,h1],rfl,fun i t us ht hu=>?_⟩,hbl,h3.snoc fun u hu b hb e=>?_⟩
 ·rw [List.getElem?_map] at ht
  obtain ⟨x,hx,rfl⟩:=Option.map_eq_some_iff.1 ht
  obtain ⟨lv,ha,ho⟩:=h4 i x us hx hu
  exact ⟨hf i x hx,lv,ha,ho⟩
 ·have:=h2 u hu b hb
  simp [Value.ownBlock] at e
  omega
theorem CRel.start {g:Nat} {w:World} {xs:List (VT×Value)} {N cap:Nat} {cur:Array Value} {T:TypeId} (hg:w.heap[g]? =some (.cells cur T (0,0))) (_hcap:xs.length≤cap) (hsz:cur.size=cap*5) (htk:cur.toList.take (xs.length*5)=cellsL xs):CRel g cap xs N w 0 w:=by
 refine ⟨Below.refl _ _,(Array.getElem?_eq_some_iff.1 hg).1,fun j hj=>⟨?_,by unfold World.frozen?;rw [hg];simp⟩,⟨[],rfl,Blk.nil _ _,ApartV.nil,fun i x us _ h=>by simp at h⟩,fun i x _ hx=>?_⟩
 ·rw [Nat.zero_add]
  unfold World.cell?
  rw [hg]
  simp
  omega
 ·have hi:=(List.getElem?_eq_some_iff.1 hx).1
  have k:∀ j u,j<5→(x.1.cells x.2)[j]? =some u→w.cell? ⟨g,i*5+j,none⟩=some u:=fun j u hj hu=>by
   have:=cellsL_at hx j hj
   rw [←htk,List.getElem?_take_of_lt (by omega),Array.getElem?_toList,hu] at this
   unfold World.cell?
   rw [hg]
   simpa using this
  exact ⟨k 0 _ (by omega) rfl,k 1 _ (by omega) rfl,k 2 _ (by omega) rfl,k 3 _ (by omega) rfl,k 4 _ (by omega) rfl⟩
theorem one_box {w W1:World} {cs:List Value} {T:TypeId} (h:w.alloc (.cells cs.toArray T)=W1):Box W1 w.heap.size cs∧W1.heap.size=w.heap.size+1∧Below w.heap.size w W1:=by
 subst h
 exact ⟨Box.new w cs T,heap_alloc_size _ _,(Below.refl _ _).alloc (Nat.le_refl _) _⟩
theorem two_boxes {w W1:World} {cs ds:List Value} {T T':TypeId} (h:(w.alloc (.cells cs.toArray T)).alloc (.cells ds.toArray T')=W1):Box W1 w.heap.size cs∧Box W1 (w.heap.size+1) ds∧W1.heap.size=w.heap.size+2∧Below w.heap.size w W1:=by
 subst h
 have hz:(w.alloc (.cells cs.toArray T)).heap.size=w.heap.size+1:=heap_alloc_size _ _
 refine ⟨(Box.new w cs T).heap (Below.heap_alloc _ _ _ (by omega)),by have:=Box.new (w.alloc (.cells cs.toArray T)) ds T';rwa [hz] at this,by rw [heap_alloc_size,hz],((Below.refl _ _).alloc (Nat.le_refl _) _).alloc (by omega) _⟩
theorem vt_new (w:World) (t:VT) (lv:Value) (T:TypeId):∀ j u,(t.cells lv)[j]? =some u→(w.alloc (.cells #[.int .i64 t.kind,.int .u64 t.num,.string t.text,lv,.int .i64 t.elem] T)).cell? ((⟨w.heap.size,0,none⟩:Addr).add j)=some u:=fun j u hu=>by
 rw [Addr.add_mid,Nat.zero_add,World.cell?_alloc_new]
 simpa [VT.cells] using hu
theorem vt_one (t:VT) (a:Option Addr) (n c:Nat):∀ u∈t.cells (.slice a n c),u.oneCell'=true:=by
 intro u hu
 simp only [VT.cells,List.mem_cons,List.not_mem_nil,or_false] at hu
 rcases hu with h|h|h|h|h<;>subst h<;>rfl
structure FT where
 name:List UInt8
 type:Int
 kinds:List Int
 must:Bool
 dk:Int
 dn:Int
 dt:List UInt8
def FT.dflt (f:FT):VT:= .mk f.dk f.dn ⟨f.dt.toArray⟩ 0 []
def tab:List (Nat×List FT):=[
 (16,[⟨[105,100],19,[],true,0,0,[]⟩,⟨[104,111,115,116],19,[],false,0,0,[]⟩,⟨[109,97,120,45,102,114,97,109,101],4,[],false,4,4294967295,[]⟩,⟨[99,104,97,110,110,101,108,45,109,97,120],3,[],false,3,65535,[]⟩,⟨[105,100,108,101],4,[],false,0,0,[]⟩,⟨[112,114,111,112,115],22,[],false,0,0,[]⟩]),
 (17,[⟨[114,101,109,111,116,101],3,[],false,0,0,[]⟩,⟨[110,101,120,116,45,111,117,116],4,[],true,0,0,[]⟩,⟨[105,110,45,119,105,110,100,111,119],4,[],true,0,0,[]⟩,⟨[111,117,116,45,119,105,110,100,111,119],4,[],true,0,0,[]⟩,⟨[104,97,110,100,108,101,45,109,97,120],4,[],false,4,4294967295,[]⟩,⟨[112,114,111,112,115],22,[],false,0,0,[]⟩]),
 (18,[⟨[110,97,109,101],19,[],true,0,0,[]⟩,⟨[104,97,110,100,108,101],4,[],true,0,0,[]⟩,⟨[114,111,108,101],1,[],true,0,0,[]⟩,⟨[115,110,100,45,109,111,100,101],2,[],false,2,2,[]⟩,⟨[114,99,118,45,109,111,100,101],2,[],false,2,0,[]⟩,⟨[115,111,117,114,99,101],102,[40],false,0,0,[]⟩,⟨[116,97,114,103,101,116],102,[41,48],false,0,0,[]⟩,⟨[117,110,115,101,116,116,108,101,100],22,[],false,0,0,[]⟩,⟨[105,110,99,111,109,112,108,101,116,101],1,[],false,1,0,[]⟩,⟨[105,110,105,116,105,97,108,45,99,111,117,110,116],4,[],false,0,0,[]⟩,⟨[109,97,120,45,109,101,115,115,97,103,101],5,[],false,0,0,[]⟩,⟨[112,114,111,112,115],22,[],false,0,0,[]⟩]),
 (19,[⟨[110,101,120,116,45,105,110],4,[],false,0,0,[]⟩,⟨[105,110,45,119,105,110,100,111,119],4,[],true,0,0,[]⟩,⟨[110,101,120,116,45,111,117,116],4,[],true,0,0,[]⟩,⟨[111,117,116,45,119,105,110,100,111,119],4,[],true,0,0,[]⟩,⟨[104,97,110,100,108,101],4,[],false,0,0,[]⟩,⟨[99,111,117,110,116],4,[],false,0,0,[]⟩,⟨[99,114,101,100,105,116],4,[],false,0,0,[]⟩,⟨[97,118,97,105,108,97,98,108,101],4,[],false,0,0,[]⟩,⟨[100,114,97,105,110],1,[],false,1,0,[]⟩,⟨[101,99,104,111],1,[],false,1,0,[]⟩,⟨[112,114,111,112,115],22,[],false,0,0,[]⟩]),
 (20,[⟨[104,97,110,100,108,101],4,[],true,0,0,[]⟩,⟨[105,100],4,[],false,0,0,[]⟩,⟨[116,97,103],18,[],false,0,0,[]⟩,⟨[102,111,114,109,97,116],4,[],false,0,0,[]⟩,⟨[115,101,116,116,108,101,100],1,[],false,0,0,[]⟩,⟨[109,111,114,101],1,[],false,1,0,[]⟩,⟨[115,116,97,116,101],102,[35,36,37,38,39,51,52],false,0,0,[]⟩,⟨[114,101,115,117,109,101],1,[],false,1,0,[]⟩,⟨[97,98,111,114,116,101,100],1,[],false,1,0,[]⟩,⟨[98,97,116,99,104,97,98,108,101],1,[],false,1,0,[]⟩]),
 (21,[⟨[114,111,108,101],1,[],true,0,0,[]⟩,⟨[102,105,114,115,116],4,[],true,0,0,[]⟩,⟨[108,97,115,116],4,[],false,0,0,[]⟩,⟨[115,101,116,116,108,101,100],1,[],false,1,0,[]⟩,⟨[115,116,97,116,101],102,[35,36,37,38,39,51,52],false,0,0,[]⟩,⟨[98,97,116,99,104,97,98,108,101],1,[],false,1,0,[]⟩]),
 (22,[⟨[104,97,110,100,108,101],4,[],true,0,0,[]⟩,⟨[99,108,111,115,101,100],1,[],false,1,0,[]⟩,⟨[102,97,117,108,116],102,[29],false,0,0,[]⟩]),
 (23,[⟨[102,97,117,108,116],102,[29],false,0,0,[]⟩]),
 (24,[⟨[102,97,117,108,116],102,[29],false,0,0,[]⟩]),
 (29,[⟨[99,111,110,100],20,[],true,0,0,[]⟩,⟨[116,101,120,116],19,[],false,0,0,[]⟩,⟨[105,110,102,111],22,[],false,0,0,[]⟩]),
 (35,[⟨[115,101,99,116,105,111,110],4,[],true,0,0,[]⟩,⟨[111,102,102,115,101,116],5,[],true,0,0,[]⟩]),
 (36,[]),
 (37,[⟨[102,97,117,108,116],102,[29],false,0,0,[]⟩]),
 (38,[]),
 (39,[⟨[102,97,105,108,101,100],1,[],false,0,0,[]⟩,⟨[101,108,115,101,119,104,101,114,101],1,[],false,0,0,[]⟩,⟨[97,110,110],22,[],false,0,0,[]⟩]),
 (40,[⟨[97,100,100,114,101,115,115],19,[],false,0,0,[]⟩,⟨[100,117,114,97,98,108,101],4,[],false,4,0,[]⟩,⟨[101,120,112,105,114,121],20,[],false,20,0,[115,101,115,115,105,111,110,45,101,110,100]⟩,⟨[116,105,109,101,111,117,116],4,[],false,4,0,[]⟩,⟨[100,121,110,97,109,105,99],1,[],false,1,0,[]⟩,⟨[109,111,100,101],20,[],false,0,0,[]⟩,⟨[102,105,108,116,101,114],19,[],false,0,0,[]⟩,⟨[100,101,102,97,117,108,116],102,[36,37,38,39],false,0,0,[]⟩,⟨[111,117,116,99,111,109,101,115],101,[],false,0,0,[]⟩,⟨[99,97,112,115],101,[],false,0,0,[]⟩]),
 (41,[⟨[97,100,100,114,101,115,115],19,[],false,0,0,[]⟩,⟨[100,117,114,97,98,108,101],4,[],false,4,0,[]⟩,⟨[101,120,112,105,114,121],20,[],false,20,0,[115,101,115,115,105,111,110,45,101,110,100]⟩,⟨[116,105,109,101,111,117,116],4,[],false,4,0,[]⟩,⟨[100,121,110,97,109,105,99],1,[],false,1,0,[]⟩,⟨[99,97,112,115],101,[],false,0,0,[]⟩]),
 (48,[⟨[99,97,112,115],101,[],false,0,0,[]⟩]),
 (49,[]),
 (50,[⟨[116,120,110],18,[],true,0,0,[]⟩,⟨[102,97,105,108],1,[],false,1,0,[]⟩]),
 (51,[⟨[116,120,110],18,[],true,0,0,[]⟩]),
 (52,[⟨[116,120,110],18,[],true,0,0,[]⟩,⟨[111,117,116,99,111,109,101],102,[36,37,38,39],false,0,0,[]⟩]),
 (64,[⟨[109,101,99,104,115],101,[],true,0,0,[]⟩]),
 (65,[⟨[109,101,99,104],20,[],true,0,0,[]⟩,⟨[114,101,115,112,111,110,115,101],18,[],false,0,0,[]⟩,⟨[104,111,115,116],19,[],false,0,0,[]⟩]),
 (66,[⟨[99,104,97,108,108,101,110,103,101],18,[],true,0,0,[]⟩]),
 (67,[⟨[114,101,115,112,111,110,115,101],18,[],true,0,0,[]⟩]),
 (68,[⟨[99,111,100,101],2,[],true,0,0,[]⟩,⟨[100,97,116,97],18,[],false,0,0,[]⟩]),
 (112,[⟨[100,117,114,97,98,108,101],1,[],false,1,0,[]⟩,⟨[112,114,105,111,114,105,116,121],2,[],false,2,4,[]⟩,⟨[116,116,108],4,[],false,0,0,[]⟩,⟨[102,105,114,115,116],1,[],false,1,0,[]⟩,⟨[99,111,117,110,116],4,[],false,4,0,[]⟩]),
 (115,[⟨[109,101,115,115,97,103,101,45,105,100],100,[],false,0,0,[]⟩,⟨[117,115,101,114,45,105,100],18,[],false,0,0,[]⟩,⟨[116,111],19,[],false,0,0,[]⟩,⟨[115,117,98,106,101,99,116],19,[],false,0,0,[]⟩,⟨[114,101,112,108,121,45,116,111],19,[],false,0,0,[]⟩,⟨[99,111,114,114,101,108,97,116,105,111,110],100,[],false,0,0,[]⟩,⟨[99,111,110,116,101,110,116,45,116,121,112,101],20,[],false,0,0,[]⟩,⟨[101,110,99,111,100,105,110,103],20,[],false,0,0,[]⟩,⟨[101,120,112,105,114,121],16,[],false,0,0,[]⟩,⟨[99,114,101,97,116,101,100],16,[],false,0,0,[]⟩,⟨[103,114,111,117,112],19,[],false,0,0,[]⟩,⟨[115,101,113,117,101,110,99,101],4,[],false,0,0,[]⟩,⟨[114,101,112,108,121,45,103,114,111,117,112],19,[],false,0,0,[]⟩])]
def fieldsN (k:Nat):Option (List FT):=(tab.find? fun e=>Nat.beq e.1 k).map (·.2)
def fieldsT:Int→Option (List FT)
 | .ofNat k=>fieldsN k
 | .negSucc _=>none
def keysOf {α:Type}:List α→List α
 |a::_::r=>a::keysOf r
 |_=>[]
def dupFree:List VT→Bool
 |[]=>true
 |a::r=> !(r.any fun b=>eqT a b)&&dupFree r
def mapT (l:List VT):Bool:=decide (l.length%2=0)&&(decide (l.length≤2048)&&dupFree (keysOf l))
theorem dupFree_iff:∀ l:List VT,dupFree l=true↔l.Nodup
 |[]=>by simp [dupFree]
 |a::r=>by
  have ih:=dupFree_iff r
  simp only [dupFree,Bool.and_eq_true,Bool.not_eq_true',List.any_eq_false,eqT_iff,ih,List.nodup_cons]
  constructor
  ·rintro ⟨h1,h2⟩;exact ⟨fun h=>h1 a h rfl,h2⟩
  ·rintro ⟨h1,h2⟩;exact ⟨fun x hx e=>h1 (by rw [e];exact hx),h2⟩
theorem keysOf_length {α:Type}:∀ (l:List α),l.length%2=0→(keysOf l).length=l.length/2
 |[],_=>by simp [keysOf]
 |[_],h=>by simp at h
 |a::b::r,h=>by
  have:=keysOf_length r (by simp at h;omega)
  simp only [keysOf,List.length_cons,this]
  omega
theorem keysOf_get {α:Type}:∀ (l:List α) (j:Nat),l.length%2=0→(keysOf l)[j]? =l[2*j]?
 |[],j,_=>by simp [keysOf]
 |[_],_,h=>by simp at h
 |a::b::r,0,_=>by simp [keysOf]
 |a::b::r,j+1,h=>by
  have:=keysOf_get r j (by simp at h;omega)
  rw [keysOf,List.getElem?_cons_succ,this,show 2*(j+1)=2*j+1+1 by omega,List.getElem?_cons_succ,List.getElem?_cons_succ]
theorem nodup_of_get {l:List VT}:l.Nodup↔∀ (i j:Nat) (x:VT),i<j→l[i]? =some x→l[j]? ≠some x:=by
 rw [List.nodup_iff_pairwise_ne,List.pairwise_iff_getElem]
 constructor
 ·intro h i j x hij hi hj
  obtain ⟨h1,h2⟩:=List.getElem?_eq_some_iff.1 hi
  obtain ⟨h3,h4⟩:=List.getElem?_eq_some_iff.1 hj
  exact h i j h1 h3 hij (h2.trans h4.symm)
 ·intro h i j hi hj hij e
  exact h i j l[i] hij (List.getElem?_eq_getElem hi) (by rw [List.getElem?_eq_getElem hj,e])
theorem sorted_nodup {L:List VT} (hs:∀ (i j:Nat) x y,i<j→L[i]? =some x→L[j]? =some y→0≤ordT y x):L.Nodup↔∀ (i:Nat) x y,L[i]? =some x→L[i+1]? =some y→ordT x y≠0:=by
 rw [nodup_of_get]
 constructor
 ·intro h i x y hx hy e
  have:=(ordT_eq _ _).1 e
  subst this
  exact h i (i+1) x (by omega) hx hy
 ·intro h i j x hij hx hj
  obtain ⟨y,hy⟩:∃ y,L[i+1]? =some y:=⟨_,List.getElem?_eq_getElem (by have:=(List.getElem?_eq_some_iff.1 hj).1;omega)⟩
  have h1:=h i x y hx hy
  have h2:=hs i (i+1) x y (by omega) hx hy
  have h3:=ordT_sym y x
  by_cases e:i+1=j
  ·rw [e,hj] at hy
   cases hy
   exact h1 ((ordT_eq _ _).2 rfl)
  ·have h4:=hs (i+1) j y x (by omega) hy hj
   omega
theorem mapT_of_sorted {l:List VT} {L:List VT} (h0:l.length%2=0) (h1:l.length≤2048) (hp:L.Perm (keysOf l)) {b:Bool} (hb:b=true↔L.Nodup):mapT l=b:=by
 have:dupFree (keysOf l)=b:=by
  rw [Bool.eq_iff_iff,dupFree_iff,hb]
  exact hp.nodup_iff.symm
 unfold mapT
 rw [this]
 simp [h0,h1]
section
variable {β:Type} {l:List VT} {d d':List (VT×β)}
theorem sorted_map (hs:∀ (i j:Nat) x y,i<j→d'[i]? =some x→d'[j]? =some y→0≤ordT y.1 x.1):∀ (i j:Nat) x y,i<j→(d'.map (·.1))[i]? =some x→(d'.map (·.1))[j]? =some y→0≤ordT y x:=by
 intro i j x y hij hx hy
 rw [List.getElem?_map] at hx hy
 obtain ⟨a,ha,rfl⟩:=Option.map_eq_some_iff.1 hx
 obtain ⟨b,hb,rfl⟩:=Option.map_eq_some_iff.1 hy
 exact hs i j a b hij ha hb
theorem map_no (h0:l.length%2=0) (h1:l.length≤2048) (hp:(d'.map (·.1)).Perm (d.map (·.1))) (hk:d.map (·.1)=keysOf l) (hs:∀ (i j:Nat) x y,i<j→d'[i]? =some x→d'[j]? =some y→0≤ordT y.1 x.1) {q:Nat} {x y:VT×β} (hx:d'[q]? =some x) (hy:d'[q+1]? =some y) (e:ordT x.1 y.1=0):mapT l=false:=by
 refine mapT_of_sorted h0 h1 (hk▸hp) ?_
 rw [sorted_nodup (sorted_map hs)]
 constructor
 ·intro h;cases h
 ·intro h
  exact absurd e (h q x.1 y.1 (by rw [List.getElem?_map,hx];rfl) (by rw [List.getElem?_map,hy];rfl))
theorem map_yes (h0:l.length%2=0) (h1:l.length≤2048) (hp:(d'.map (·.1)).Perm (d.map (·.1))) (hk:d.map (·.1)=keysOf l) (hs:∀ (i j:Nat) x y,i<j→d'[i]? =some x→d'[j]? =some y→0≤ordT y.1 x.1) (hn:∀ (k:Nat) x y,d'[k]? =some x→d'[k+1]? =some y→ordT x.1 y.1≠0):mapT l=true:=by
 refine mapT_of_sorted h0 h1 (hk▸hp) ?_
 rw [sorted_nodup (sorted_map hs)]
 refine ⟨fun _ i x y hx hy=>?_,fun _=>rfl⟩
 rw [List.getElem?_map] at hx hy
 obtain ⟨a,ha,rfl⟩:=Option.map_eq_some_iff.1 hx
 obtain ⟨b,hb,rfl⟩:=Option.map_eq_some_iff.1 hy
 exact hn i a b ha hb
end
def arrT (el:Int) (l:List VT):Bool:=decide (0<el)&&(decide (el<24)&&l.all fun t=>decide (t.kind=el))
def aloneT (t:VT) (d:Int):Int:=
 if t.kind<0∨24<t.kind then 20
 else if 32<d then 26
 else if extraT t.kind t.num t.text t.elem t.list.length then 25
 else if !numT t.kind t.num then 21
 else if !textT t.kind t.text then 22
 else if t.kind=22∧mapT t.list=false then 23
 else if t.kind=23∧arrT t.elem t.list=false then 24
 else if t.kind=24∧t.list.length≠2 then 27
 else 0
mutual
def checkT:VT→Int→Int
 | .mk k m s e l,d=>if aloneT (.mk k m s e l) d≠0 then aloneT (.mk k m s e l) d else checkTs l (d+1)
def checkTs:List VT→Int→Int
 |[],_=>0
 |t::r,d=>if checkT t d≠0 then checkT t d else checkTs r d
end
mutual
def depthT:VT→Nat
 | .mk _ _ _ _ l=>depthTs l+1
def depthTs:List VT→Nat
 |[]=>0
 |t::r=>max (depthT t) (depthTs r)
end
theorem checkT_eq (t:VT) (d:Int):checkT t d=if aloneT t d≠0 then aloneT t d else checkTs t.list (d+1):=by cases t;rw [checkT];rfl
theorem checkTs_step {l:List VT} {k:Nat} {t:VT} (h:l[k]? =some t) (d:Int):checkTs (l.drop k) d=if checkT t d≠0 then checkT t d else checkTs (l.drop (k+1)) d:=by
 have h1:l.drop k=t::l.drop (k+1):=by
  rw [List.drop_eq_getElem_cons (List.getElem?_eq_some_iff.1 h).1];congr 1;exact (List.getElem?_eq_some_iff.1 h).2
 rw [h1,checkTs]
theorem checkTs_end (l:List VT) (d:Int):checkTs (l.drop l.length) d=0:=by rw [List.drop_length,checkTs]
theorem depthT_eq (t:VT):depthT t=depthTs t.list+1:=by cases t;rw [depthT];rfl
theorem alone_deep {t:VT} {d:Int} (h:aloneT t d=0):d≤32:=by
 unfold aloneT at h
 split at h
 ·cases h
 ·split at h
  ·cases h
  ·omega
def zeroT:VT:= .mk 0 0 empt 0 []
def symArr (x:VT):VT:= .mk 23 0 empt 20 [x]
def wantedT (f:FT) (v:VT):Bool:=
 if f.type=100 then true
 else if f.type=101 then decide (v.kind=23)&&decide (v.elem=20)
 else if f.type=102 then (match kindOf v with
  |some k=>f.kinds.contains k
  |none=>false)
 else decide (v.kind=f.type)
abbrev Rd:=FT→VT→Except Int VT
def itemG (rd:Rd) (f:FT) (x:VT):Except Int VT:=
 if x.kind=0 then (if f.must then .error 72 else .ok f.dflt)
 else if f.type=101∧x.kind=20 then .ok (symArr x)
 else if wantedT f x then rd f x else .error 73
def itemsG (rd:Rd):List FT→List VT→Nat→Except (Nat×Int) (List VT)
 |[],_,_=> .ok []
 |f::fs,g,i=>match itemG rd f (g.headD zeroT) with
  | .error e=> .error (i,e)
  | .ok y=>match itemsG rd fs g.tail (i+1) with
    | .error e=> .error e
    | .ok r=> .ok (y::r)
def unpackG (rd:Rd) (v:VT):Except (Nat×Int) (Int×List VT):=
 match kindOf v with
 |none=> .error (0,70)
 |some k=>match fieldsT k with
  |none=> .error (0,70)
  |some fs=>match v.list with
   |[_,x]=>if x.kind≠21 then .error (0,70) else if fs.length<x.list.length then .error (fs.length,71) else
      match itemsG rd fs x.list 0 with
      | .error e=> .error e
      | .ok l=> .ok (k,l)
   |_=> .error (0,70)
def trimT:List VT→List VT
 |[]=>[]
 |a::r=>match trimT r with
  |[]=>if a.kind=0 then [] else [a]
  |b::s=>a::b::s
def packV (k:Int) (l:List VT):VT:= .mk 24 0 empt 0 [.mk 5 k empt 0 [],.mk 21 0 empt 0 l]
def okV (a:Except Int VT):VT:=match a with| .ok y=>y| .error _=>zeroT
def itemP (rd:Rd) (f:FT) (v:VT):VT:=if v.kind=0∨eqT v f.dflt=true then zeroT else okV (rd f v)
def packG (rd:Rd) (k:Int) (l:List VT):VT:=packV k (trimT (List.zipWith (itemP rd) ((fieldsT k).getD []) l))
def readG (r:VT→Except (Nat×Int) (Int×List VT)) (p:Int→List VT→VT) (f:FT) (v:VT):Except Int VT:=
 if f.type=102 then (match r v with
  | .error e=> .error e.2
  | .ok a=> .ok (p a.1 a.2)) else .ok v
def readF:Nat→Rd
 |0=>readG (fun _=> .error (0,99)) packV
 |n+1=>readG (unpackG (readF n)) (packG (readF n))
abbrev unpackF (n:Nat):=unpackG (readF n)
abbrev packF (n:Nat):=packG (readF n)
def takeR (rd:Rd) (f:FT) (v:VT):VT:=if f.type=102∧v.kind≠0 then (match rd f v with| .ok y=>y| .error _=>packV 0 []) else v
def itemR (rd:Rd) (f:FT) (v:VT):VT:=if eqT (takeR rd f v) f.dflt=true then zeroT else takeR rd f v
def packR' (rd:Rd) (k:Int) (l:List VT):VT:=packV k (trimT (List.zipWith (itemR rd) ((fieldsT k).getD []) l))
def unpackR' (rd:Rd) (v:VT):Except (Nat×Int) (Int×List VT):=if checkT v 1≠0 then .error (0,checkT v 1) else unpackG rd v
def readR:Nat→Rd
 |0=>readG (fun _=> .error (0,99)) packV
 |n+1=>readG (unpackR' (readR n)) (packR' (readR n))
abbrev unpackR (n:Nat):=unpackR' (readR n)
abbrev packR (n:Nat):=packR' (readR n)
def fieldGood (f:FT):Bool:=
 (!decide (f.type=102)||(decide (f.dk=0)&&(decide (f.dn=0)&&(f.dt.isEmpty&& !f.must))))&&((!f.must||(decide (f.dk=0)&&(decide (f.dn=0)&&f.dt.isEmpty)))&&(!decide (f.type=101)||decide (f.dk=0)))
theorem tab_good:∀ e∈tab,∀ f∈e.2,fieldGood f=true:=by decide
theorem tab_named:∀ e∈tab,nameL e.1≠[]:=by decide
theorem fieldsT_mem {k:Int} {fs:List FT} (h:fieldsT k=some fs):∃ e∈tab,(e.1:Int)=k∧e.2=fs:=by
 cases k with
 |negSucc j=>cases h
 |ofNat n=>
  have h:fieldsN n=some fs:=h
  unfold fieldsN at h
  obtain ⟨e,he,rfl⟩:=Option.map_eq_some_iff.1 h
  refine ⟨e,List.mem_of_find?_eq_some he,?_,rfl⟩
  have:=List.find?_some he
  have:=Nat.eq_of_beq_eq_true this
  rw [this];rfl
theorem field_good {k:Int} {fs:List FT} (h:fieldsT k=some fs) {f:FT} (hf:f∈fs):fieldGood f=true:=by
 obtain ⟨e,he,_,rfl⟩:=fieldsT_mem h
 exact tab_good e he f hf
theorem dflt_zero {f:FT} (h1:f.dk=0) (h2:f.dn=0) (h3:f.dt=[]):f.dflt=zeroT:=by
 unfold FT.dflt zeroT empt;rw [h1,h2,h3]
theorem good_comp {f:FT} (h:fieldGood f=true) (ht:f.type=102):f.dflt=zeroT∧f.must=false:=by
 unfold fieldGood at h
 simp only [ht,decide_true,Bool.not_true,Bool.false_or,Bool.and_eq_true,decide_eq_true_eq,List.isEmpty_iff,Bool.not_eq_true'] at h
 exact ⟨dflt_zero h.1.1 h.1.2.1 h.1.2.2.1,h.1.2.2.2⟩
theorem good_must {f:FT} (h:fieldGood f=true) (hm:f.must=true):f.dflt=zeroT:=by
 unfold fieldGood at h
 simp only [hm,Bool.not_true,Bool.false_or,Bool.and_eq_true,decide_eq_true_eq,List.isEmpty_iff] at h
 exact dflt_zero h.2.1.1 h.2.1.2.1 h.2.1.2.2
theorem good_sym {f:FT} (h:fieldGood f=true) (ht:f.type=101):f.dflt.kind=0:=by
 unfold fieldGood at h
 simp only [ht,decide_true,Bool.not_true,Bool.false_or,Bool.and_eq_true,decide_eq_true_eq] at h
 exact h.2.2
mutual
theorem eqT_self:∀ t:VT,eqT t t=true
 | .mk k m s e l=>by rw [eqT];simp [eqTs_self l]
theorem eqTs_self:∀ l:List VT,eqTs l l=true
 |[]=>by rw [eqTs]
 |t::r=>by rw [eqTs,eqT_self t,eqTs_self r];rfl
end
theorem trim_len:∀ l:List VT,(trimT l).length≤l.length
 |[]=>Nat.le_refl _
 |a::r=>by
  have:=trim_len r
  unfold trimT
  split
  ·split<;>simp
  ·rename_i h;rw [h] at this;simpa using this
theorem trim_mem:∀ {l:List VT} {x:VT},x∈trimT l→x∈l
 |[],x,h=>h
 |a::r,x,h=>by
  have ih:=fun {x}=>trim_mem (l:=r) (x:=x)
  unfold trimT at h
  split at h
  ·split at h
   ·cases h
   ·rw [List.mem_singleton.1 h];exact List.mem_cons_self
  ·rename_i b s hb
   rcases List.mem_cons.1 h with rfl|h
   ·exact List.mem_cons_self
   ·rw [hb] at ih;exact List.mem_cons_of_mem _ (ih h)
theorem trim_get:∀ (l:List VT) (i:Nat),((trimT l)[i]?).getD zeroT=(l[i]?).getD zeroT∨(((trimT l)[i]?).getD zeroT=zeroT∧((l[i]?).getD zeroT).kind=0)
 |[],i=> .inl rfl
 |a::r,i=>by
  have ih:=trim_get r
  unfold trimT
  split
  ·rename_i h
   rw [h] at ih
   split
   ·rename_i hk
    refine .inr ⟨by simp,?_⟩
    cases i with
    |zero=>simpa using hk
    |succ i=>
     have:=ih i
     simp only [List.getElem?_nil,Option.getD_none,true_and] at this
     rw [List.getElem?_cons_succ]
     rcases this with h|h
     ·rw [←h];rfl
     ·exact h
   ·cases i with
    |zero=>exact .inl rfl
    |succ i=>
     have:=ih i
     simp only [List.getElem?_nil,Option.getD_none,true_and] at this
     rw [List.getElem?_cons_succ,List.getElem?_cons_succ]
     simpa using this
  ·rename_i b s h
   cases i with
   |zero=>exact .inl rfl
   |succ i=>
    rw [List.getElem?_cons_succ,List.getElem?_cons_succ,←h]
    exact ih i
theorem itemG_kind0 (rd:Rd) (f:FT) {x y:VT} (hx:x.kind=0) (hy:y.kind=0):itemG rd f x=itemG rd f y:=by unfold itemG;rw [if_pos hx,if_pos hy]
theorem headD_get (l:List VT):l.headD zeroT=(l[0]?).getD zeroT:=by cases l<;>rfl
theorem tail_get (l:List VT) (i:Nat):(l.tail[i]?).getD zeroT=(l[i+1]?).getD zeroT:=by cases l<;>rfl
theorem itemsG_congr {rd rd':Rd}:∀ {fs:List FT} {g g':List VT} {i:Nat},(∀ (j:Nat) (f:FT),fs[j]? =some f→itemG rd f ((g[j]?).getD zeroT)=itemG rd' f ((g'[j]?).getD zeroT))→itemsG rd fs g i=itemsG rd' fs g' i
 |[],g,g',i,_=>rfl
 |f::fs,g,g',i,h=>by
  have h0:=h 0 f rfl
  have ht:=itemsG_congr (rd:=rd) (rd':=rd') (fs:=fs) (g:=g.tail) (g':=g'.tail) (i:=i+1) fun j f' hj=>by rw [tail_get,tail_get];exact h (j+1) f' hj
  unfold itemsG
  rw [headD_get,headD_get,h0,ht]
theorem itemsG_ok {rd:Rd}:∀ {fs:List FT} {g:List VT} {i:Nat} {l:List VT},itemsG rd fs g i= .ok l→l.length=fs.length∧∀ (j:Nat) (f:FT) (y:VT),fs[j]? =some f→l[j]? =some y→itemG rd f ((g[j]?).getD zeroT)= .ok y
 |[],g,i,l,h=>by cases h;exact ⟨rfl,fun j f y hf=>by simp at hf⟩
 |f::fs,g,i,l,h=>by
  unfold itemsG at h
  split at h
  ·cases h
  ·rename_i y hy
   split at h
   ·cases h
   ·rename_i r hr
    cases h
    obtain ⟨h1,h2⟩:=itemsG_ok hr
    refine ⟨by simp [h1],fun j f' y' hf hy'=>?_⟩
    cases j with
    |zero=>simp at hf hy';subst hf;subst hy';rw [←headD_get];exact hy
    |succ j=>simp at hf hy';rw [←tail_get];exact h2 j f' y' hf hy'
theorem itemsG_of {rd:Rd}:∀ {fs:List FT} {g:List VT} {i:Nat} {l:List VT},l.length=fs.length→(∀ (j:Nat) (f:FT) (y:VT),fs[j]? =some f→l[j]? =some y→itemG rd f ((g[j]?).getD zeroT)= .ok y)→itemsG rd fs g i= .ok l
 |[],g,i,[],hl,h=>rfl
 |[],g,i,y::l,hl,h=>by simp at hl
 |f::fs,g,i,[],hl,h=>by simp at hl
 |f::fs,g,i,y::l,hl,h=>by
  unfold itemsG
  rw [headD_get,h 0 f y rfl rfl]
  simp only
  rw [itemsG_of (l:=l) (by simpa using hl) fun j f' y' hf hy=>by rw [tail_get];exact h (j+1) f' y' hf hy]
structure RecOf (rd:Rd) (v:VT) (k:Int) (fs:List FT) (l:List VT):Prop where
 kind:kindOf v=some k
 fields:fieldsT k=some fs
 body:∃ d x,v.list=[d,x]∧x.kind=21∧x.list.length≤fs.length∧itemsG rd fs x.list 0= .ok l
theorem unpackG_ok {rd:Rd} {v:VT} {k:Int} {l:List VT} (h:unpackG rd v= .ok (k,l)):∃ fs,RecOf rd v k fs l:=by
 unfold unpackG at h
 split at h
 ·cases h
 ·rename_i k' hk
  split at h
  ·cases h
  ·rename_i fs hfs
   split at h
   ·rename_i d x hl
    split at h
    ·cases h
    ·rename_i hx
     split at h
     ·cases h
     ·rename_i hlen
      split at h
      ·cases h
      ·rename_i l' hi
       cases h
       exact ⟨fs,hk,hfs,d,x,hl,by simpa using hx,by omega,hi⟩
   ·cases h
theorem unpackG_of {rd:Rd} {v:VT} {k:Int} {fs:List FT} {l:List VT} (h:RecOf rd v k fs l):unpackG rd v= .ok (k,l):=by
 obtain ⟨h1,h2,d,x,h3,h4,h5,h6⟩:=h
 unfold unpackG
 rw [h1]
 simp only [h2,h3]
 rw [if_neg (by simp [h4]),if_neg (by omega),h6]
theorem kindOf_packV {k:Int} {fs:List FT} (h:fieldsT k=some fs) (l:List VT):kindOf (packV k l)=some k:=by
 obtain ⟨e,he,hk,_⟩:=fieldsT_mem h
 have hn:=tab_named e he
 rw [hk] at hn
 unfold kindOf packV
 rw [if_pos ⟨rfl,rfl⟩]
 show kindD (.mk 5 k empt 0 [])=some k
 exact kindD_num (d:= .mk 5 k empt 0 []) ⟨rfl,rfl,rfl,rfl⟩ hn
end Go.Proofs.Nu
