/-
  The texts NuTree NuWeigh NuLent NuLentB NuLentC NuLentD NuEq NuState NuOwn NuTreeOwn NuStateB NuStateC NuBox NuB NuKind NuField NuA NuUtf NuAlone NuOrd NuMap NuCheck NuShape NuShapeB NuWalk NuShapeC NuPack NuNodes NuLat NuRange of this claim, one behind the other.
-/
import Derived.WalkKit
import Derived.Below
import Derived.Laws.Rows
import Derived.Lib.Strings
import Derived.ArgAppend
import Derived.Deep.MidRow
import Derived.Deep.Upon
import Derived.Maps.AppendAt
import Derived.Laws.IdiomCopy
import GoSem.Core.Utf8
import Derived.Lib.Bytealg
import Derived.Lib.Small
import Derived.Sort.Grow
import Derived.Sort.Statements
import Derived.Deep.Draws
import Derived.Maps.RangeRun
namespace Go.Proofs.Nu
open Go Go.RowKit
theorem ajd {p:Prop} (h:p):RowKit.Hid p:=h
inductive VT where
 |mk (kind num:Int) (text:ByteArray) (elem:Int) (list:List VT)
def VT.kind:VT→Int| .mk k _ _ _ _=>k
def VT.num:VT→Int| .mk _ n _ _ _=>n
def VT.text:VT→ByteArray| .mk _ _ t _ _=>t
def VT.elem:VT→Int| .mk _ _ _ e _=>e
def VT.list:VT→List VT| .mk _ _ _ _ l=>l
theorem VT.eta (t:VT):VT.mk t.kind t.num t.text t.elem t.list=t:=by cases t;rfl
structure VT.bD (t:VT):Prop where
 k0: -9223372036854775808≤t.kind
 k1:t.kind≤9223372036854775807
 n0:0≤t.num
 n1:t.num≤18446744073709551615
 e0: -9223372036854775808≤t.elem
 e1:t.elem≤9223372036854775807
 x1:t.text.size≤maxLen
def VT.cells (t:VT) (lv:Value):List Value:=[.int .i64 t.kind,.int .u64 t.num,.string t.text,lv,.int .i64 t.elem]
abbrev VT.agg (t:VT) (lv:Value):Value:= .agg #[.int .i64 t.kind,.int .u64 t.num,.string t.text,lv,.int .i64 t.elem]
structure pO (w:World) (b o:Nat) (t:VT) (lv:Value):Prop where
 kind:w.cell? ⟨b,o,none⟩=some (.int .i64 t.kind)
 num:w.cell? ⟨b,o+1,none⟩=some (.int .u64 t.num)
 text:w.cell? ⟨b,o+2,none⟩=some (.string t.text)
 list:w.cell? ⟨b,o+3,none⟩=some lv
 elem:w.cell? ⟨b,o+4,none⟩=some (.int .i64 t.elem)
def bR (B:Nat) (w:World):Nat→Value→List VT→Prop
 |0,_,_=>False
 |n+1,v,ts=>(ts=[]∧∃ p c,v= .slice p 0 c)∨
   ∃ b off c,v= .slice (some ⟨b,off,none⟩) ts.length c∧b<B∧ts.length≤maxLen∧∀ i t,ts[i]? =some t→t.bD∧∃ lv,pO w b (off+i*5) t lv∧bR B w n lv t.list
theorem pO.below {B:Nat} {w w':World} {b o:Nat} {t:VT} {lv:Value} (h:pO w b o t lv) (hb:Below B w w') (hlt:b<B):pO w' b o t lv:=
 ⟨(hb.cell hlt).trans h.kind,(hb.cell hlt).trans h.num,(hb.cell hlt).trans h.text,(hb.cell hlt).trans h.list,(hb.cell hlt).trans h.elem⟩
theorem bR.below {B:Nat} {w w':World} (hb:Below B w w'):∀ {n:Nat} {v:Value} {ts:List VT},bR B w n v ts→bR B w' n v ts
 |0,_,_,h=>h
 |n+1,v,ts,h=>by
  rcases h with h|⟨b,off,c,h1,h2,h3,h4⟩
  ·exact .inl h
  ·exact .inr ⟨b,off,c,h1,h2,h3,fun i t ht=>let ⟨hf,lv,ha,hl⟩:=h4 i t ht;⟨hf,lv,ha.below hb h2,bR.below hb hl⟩⟩
theorem bR.up {B B':Nat} {w:World} (hB:B≤B'):∀ {n:Nat} {v:Value} {ts:List VT},bR B w n v ts→bR B' w n v ts
 |0,_,_,h=>h
 |n+1,v,ts,h=>by
  rcases h with h|⟨b,off,c,h1,h2,h3,h4⟩
  ·exact .inl h
  ·exact .inr ⟨b,off,c,h1,by omega,h3,fun i t ht=>let ⟨hf,lv,ha,hl⟩:=h4 i t ht;⟨hf,lv,ha,bR.up hB hl⟩⟩
theorem bR.mono {B:Nat} {w:World}:∀ {n m:Nat} {v:Value} {ts:List VT},n≤m→bR B w n v ts→bR B w m v ts
 |0,_,_,_,_,h=>h.elim
 |n+1,0,_,_,hn,_=>by omega
 |n+1,m+1,v,ts,hn,h=>by
  rcases h with h|⟨b,off,c,h1,h2,h3,h4⟩
  ·exact .inl h
  ·exact .inr ⟨b,off,c,h1,h2,h3,fun i t ht=>let ⟨hf,lv,ha,hl⟩:=h4 i t ht;⟨hf,lv,ha,bR.mono (by omega) hl⟩⟩
theorem bR.slice {B:Nat} {w:World} {n:Nat} {v:Value} {ts:List VT} (h:bR B w n v ts):∃ p c,v= .slice p ts.length c:=by
 cases n with
 |zero=>exact h.elim
 |succ n=>
  rcases h with ⟨rfl,p,c,rfl⟩|⟨b,off,c,rfl,_⟩
  ·exact ⟨p,c,rfl⟩
  ·exact ⟨_,c,rfl⟩
theorem bR.len {B:Nat} {w:World} {n:Nat} {v:Value} {ts:List VT} (h:bR B w n v ts):ts.length≤maxLen:=by
 cases n with
 |zero=>exact h.elim
 |succ n=>
  rcases h with ⟨rfl,_⟩|⟨b,off,c,_,_,h,_⟩
  ·exact Nat.zero_le _
  ·exact h
def Zu (B:Nat) (w:World) (n:Nat) (v:Value) (t:VT):Prop:=t.bD∧∃ lv,v=t.agg lv∧bR B w n lv t.list
mutual
def wt:VT→Nat→Nat
 | .mk _ _ s _ l,n=>qK l (n+1+s.size/64)
def qK:List VT→Nat→Nat
 |[],n=>n
 |t::ts,n=>if n≤100000 then qK ts (wt t n) else n
end
theorem VY (t:VT) (n:Nat):wt t n=qK t.list (n+1+t.text.size/64):=by cases t;simp [wt,VT.list,VT.text]
theorem ZK (n:Nat):qK [] n=n:=by simp [qK]
theorem QY (ts:List VT) {n:Nat} (h:100000<n):qK ts n=n:=by
 cases ts with
 |nil=>simp [qK]
 |cons t ts=>rw [qK,if_neg (by omega)]
theorem Kh {ts:List VT} {k:Nat} {t:VT} (hk:ts[k]? =some t) {n:Nat} (h:n≤100000):qK (ts.drop k) n=qK (ts.drop (k+1)) (wt t n):=by
 have hlt:=(List.getElem?_eq_some_iff.1 hk).1
 have:ts.drop k=t::ts.drop (k+1):=by
  rw [List.drop_eq_getElem_cons hlt]
  congr 1
  exact (List.getElem?_eq_some_iff.1 hk).2
 rw [this,qK,if_pos h]
theorem QZ (ts:List VT) (n:Nat):qK (ts.drop ts.length) n=n:=by rw [List.drop_length,ZK]
mutual
theorem abC:∀ (t:VT) (n:Nat),n<wt t n
 | .mk _ _ s _ l,n=>by rw [wt];exact Nat.lt_of_lt_of_le (by omega) (Ig l _)
theorem Ig:∀ (ts:List VT) (n:Nat),n≤qK ts n
 |[],n=>by rw [qK];exact Nat.le_refl _
 |t::ts,n=>by
  rw [qK]
  split
  ·exact Nat.le_trans (Nat.le_of_lt (abC t n)) (Ig ts _)
  ·exact Nat.le_refl _
end
def VZ (ts:List VT):Prop:=∃ n,qK ts n≤100000
theorem Q0:∀ (ts:List VT) (n:Nat),qK ts n≤100000→n+ts.length≤100000
 |[],n,h=>by rw [qK] at h;simpa using h
 |t::ts,n,h=>by
  rw [qK] at h
  split at h
  ·have:=Q0 ts _ h
   have:=abC t n
   simp only [List.length_cons]
   omega
  ·omega
theorem VZ.len {ts:List VT} (h:VZ ts):ts.length≤100000:=by
 obtain ⟨n,h⟩:=h
 have:=Q0 ts n h
 omega
theorem VZ.child:∀ {ts:List VT} {k:Nat} {t:VT},VZ ts→ts[k]? =some t→VZ t.list
 |[],k,t,_,h=>by simp at h
 |a::ts,0,t,⟨n,h⟩,hk=>by
  simp at hk
  subst hk
  rw [qK] at h
  split at h
  ·have:=Ig ts (wt a n)
   rw [VY] at this h
   exact ⟨_,Nat.le_trans this h⟩
  ·omega
 |a::ts,k+1,t,⟨n,h⟩,hk=>by
  simp at hk
  rw [qK] at h
  split at h
  ·exact VZ.child ⟨_,h⟩ hk
  ·omega
structure Apart (lo hi:Nat) (w w':World):Prop where
 os:w'.os=w.os
 tape:w'.tape=w.tape
 output:w'.output=w.output
 size:w.heap.size≤w'.heap.size
 block:∀ k,k<w.heap.size→(k<lo∨hi≤k)→w'.heap[k]? =w.heap[k]?
theorem Apart.refl (lo hi:Nat) (w:World):Apart lo hi w w:=⟨rfl,rfl,rfl,Nat.le_refl _,fun _ _ _=>rfl⟩
theorem Apart.trans {lo hi:Nat} {a b c:World} (h:Apart lo hi a b) (k:Apart lo hi b c):Apart lo hi a c:=
 ⟨k.os.trans h.os,k.tape.trans h.tape,k.output.trans h.output,Nat.le_trans h.size k.size,fun i hi' ho=>(k.block i (Nat.lt_of_lt_of_le hi' h.size) ho).trans (h.block i hi' ho)⟩
theorem Apart.wide {lo hi lo' hi':Nat} {a b:World} (h:Apart lo hi a b) (h1:lo'≤lo) (h2:hi≤hi'):Apart lo' hi' a b:=
 ⟨h.os,h.tape,h.output,h.size,fun i hi ho=>h.block i hi (by omega)⟩
theorem Apart.of_below {B lo hi:Nat} {a b:World} (h:Below B a b) (hB:a.heap.size≤B):Apart lo hi a b:=⟨h.os,h.tape,h.output,h.size,fun i hi _=>h.block i (by omega)⟩
theorem Apart.below {lo hi:Nat} {a b:World} (h:Apart lo hi a b) {B:Nat} (hB:B≤lo) (hs:B≤a.heap.size):Below B a b:=⟨h.os,h.tape,h.output,h.size,fun i hi=>h.block i (by omega) (by omega)⟩
theorem Apart.drew {lo hi:Nat} {a w:World} (h:Apart lo hi a w):Apart lo hi a w.drew:=⟨h.os,h.tape,h.output,h.size,h.block⟩
theorem Apart.setCell {lo hi:Nat} {a w:World} (h:Apart lo hi a w) {p:Addr} (h1:lo≤p.block) (h2:p.block<hi) (u:Value):Apart lo hi a (w.setCell p u):=
 h.trans ⟨rfl,rfl,rfl,by simp [World.setCell],fun k hk ho=>Below.heap_setCell _ _ _ _ (by omega)⟩
theorem Apart.cell {lo hi:Nat} {w w':World} (h:Apart lo hi w w') {p:Addr} (hp:p.block<w.heap.size) (ho:p.block<lo∨hi≤p.block):w'.cell? p=w.cell? p:=World.cell?_of_block (w:=w) (h.block p.block hp ho)
theorem Apart.frozen {lo hi:Nat} {w w':World} (h:Apart lo hi w w') {p:Addr} (hp:p.block<w.heap.size) (ho:p.block<lo∨hi≤p.block):w'.frozen? p=w.frozen? p:=World.frozen?_of_block (w:=w) (h.block p.block hp ho)
def bV {α:Type} (E:Nat→Nat→Nat→α→Prop):Nat→Nat→Nat→List α→Prop
 |_,lo,hi,[]=>lo=hi
 |i,lo,hi,t::ts=>∃ mid,E i lo mid t∧bV E (i+1) mid hi ts
theorem bV.snoc {α:Type} {E:Nat→Nat→Nat→α→Prop} {t:α} {hi:Nat}:∀ {ts:List α} {i lo mid:Nat},bV E i lo mid ts→E (i+ts.length) mid hi t→bV E i lo hi (ts++[t])
 |[],i,lo,mid,h,he=>by
  obtain rfl:lo=mid:=h
  exact ⟨hi,he,rfl⟩
 |a::ts,i,lo,mid,⟨m,h1,h2⟩,he=>⟨m,h1,bV.snoc h2 (by rw [show i+1+ts.length=i+(a::ts).length by simp;omega];exact he)⟩
theorem bV.imp {α:Type} {E F:Nat→Nat→Nat→α→Prop} (hE:∀ i lo hi t,E i lo hi t→lo≤hi):∀ {ts:List α} {i lo hi:Nat},bV E i lo hi ts→(∀ j l h t,lo≤l→h≤hi→E j l h t→F j l h t)→bV F i lo hi ts∧lo≤hi
 |[],i,lo,hi,h,_=>⟨h,Nat.le_of_eq h⟩
 |a::ts,i,lo,hi,⟨m,h1,h2⟩,hf=>by
  have hlm:=hE _ _ _ _ h1
  obtain ⟨h3,h4⟩:=bV.imp hE h2 fun j l h t hl hh=>hf j l h t (by omega) hh
  exact ⟨⟨m,hf _ _ _ _ (Nat.le_refl _) h4 h1,h3⟩,by omega⟩
theorem bV.at_ {α:Type} {E:Nat→Nat→Nat→α→Prop} (hE:∀ i lo hi t,E i lo hi t→lo≤hi):∀ {ts:List α} {i lo hi:Nat},bV E i lo hi ts→∀ {k:Nat} {t:α},ts[k]? =some t→∃ l h,lo≤l∧h≤hi∧E (i+k) l h t
 |[],i,lo,hi,h,k,t,hk=>by simp at hk
 |a::ts,i,lo,hi,⟨m,h1,h2⟩,0,t,hk=>by
  simp at hk
  subst hk
  exact ⟨lo,m,Nat.le_refl _,(bV.imp hE h2 fun _ _ _ _ _ _ h=>h).2,h1⟩
 |a::ts,i,lo,hi,⟨m,h1,h2⟩,k+1,t,hk=>by
  obtain ⟨l,h,h3,h4,h5⟩:=bV.at_ hE h2 (k:=k) (t:=t) (by simpa using hk)
  have:=hE _ _ _ _ h1
  exact ⟨l,h,by omega,h4,by rw [show i+(k+1)=i+1+k by omega];exact h5⟩
def markT (i:Nat):VT:= .mk (-7) i ⟨#[]⟩ 0 []
def aW (w:World):Nat→Nat→Nat→Value→List VT→Prop
 |0,_,_,_,_=>False
 |n+1,lo,hi,v,ts=>∃ b m,v= .slice (some ⟨b,0,none⟩) ts.length (ts.length+3)∧lo≤b∧b<m∧ts.length≤100000∧
   (∀ j,w.frozen? ⟨b,j,none⟩=false)∧(∀ k,k<3→pO w b ((ts.length+k)*5) (markT (ts.length+k)) (.slice none 0 0))∧
   bV (fun i l h t=>l≤h∧t.bD∧∃ lv,pO w b (i*5) t lv∧aW w n l h lv t.list) 0 m hi ts
theorem aW.le {w:World}:∀ {n lo hi:Nat} {v:Value} {ts:List VT},aW w n lo hi v ts→lo<hi
 |0,_,_,_,_,h=>h.elim
 |n+1,lo,hi,v,ts,⟨b,m,_,h1,h2,_,_,_,hc⟩=>by
  have:=(hc.imp (fun i l h t h=>h.1) fun _ _ _ _ _ _ h=>h).2
  omega
theorem pO.apart {lo hi:Nat} {w w':World} {b o:Nat} {t:VT} {lv:Value} (h:pO w b o t lv) (ha:Apart lo hi w w') (hb:b<w.heap.size) (ho:b<lo∨hi≤b):pO w' b o t lv:=
 ⟨(ha.cell (p:=⟨b,_,none⟩) hb ho).trans h.kind,(ha.cell (p:=⟨b,_,none⟩) hb ho).trans h.num,(ha.cell (p:=⟨b,_,none⟩) hb ho).trans h.text,(ha.cell (p:=⟨b,_,none⟩) hb ho).trans h.list,(ha.cell (p:=⟨b,_,none⟩) hb ho).trans h.elem⟩
theorem aW.apart {x y:Nat} {w w':World} (ha:Apart x y w w'):∀ {n lo hi:Nat} {v:Value} {ts:List VT},aW w n lo hi v ts→hi≤w.heap.size→hi≤x∨y≤lo→aW w' n lo hi v ts
 |0,_,_,_,_,h,_,_=>h.elim
 |n+1,lo,hi,v,ts,⟨b,m,hv,h1,h2,h3,h4,h5,hc⟩,hs,ho=>by
  have hm:=(hc.imp (fun i l h t h=>h.1) fun _ _ _ _ _ _ h=>h).2
  have hb:b<w.heap.size:=by omega
  have hbo:b<x∨y≤b:=by omega
  refine ⟨b,m,hv,h1,h2,h3,fun j=>(ha.frozen (p:=⟨b,j,none⟩) hb hbo).trans (h4 j),fun k hk=>(h5 k hk).apart ha hb hbo,(hc.imp (fun i l h t h=>h.1) ?_).1⟩
  rintro i l h t hl hh ⟨e1,e2,lv,e3,e4⟩
  exact ⟨e1,e2,lv,e3.apart ha hb hbo,aW.apart ha e4 (by omega) (by omega)⟩
theorem aW.below {w w':World} {n lo hi:Nat} {v:Value} {ts:List VT} (h:aW w n lo hi v ts) (hs:hi≤w.heap.size) (hb:Below w.heap.size w w'):aW w' n lo hi v ts:=
 h.apart (x:=hi) (y:=hi) (Apart.of_below hb (Nat.le_refl _)) hs (.inl (Nat.le_refl _))
theorem aW.vX {w:World} {B:Nat}:∀ {n lo hi:Nat} {v:Value} {ts:List VT},aW w n lo hi v ts→hi≤B→bR B w n v ts
 |0,_,_,_,_,h,_=>h.elim
 |n+1,lo,hi,v,ts,⟨b,m,hv,h1,h2,h3,h4,h5,hc⟩,hB=>by
  have hm:=(hc.imp (fun i l h t h=>h.1) fun _ _ _ _ _ _ h=>h).2
  refine .inr ⟨b,0,ts.length+3,hv,by omega,Nat.le_trans h3 (by decide),fun i t ht=>?_⟩
  obtain ⟨l,h,_,hh,_,e2,lv,e3,e4⟩:=hc.at_ (fun i l h t h=>h.1) ht
  rw [Nat.zero_add] at e3 ⊢
  exact ⟨e2,lv,e3,aW.vX e4 (by omega)⟩
def iK (w:World) (b o:Nat) (v0 v1 v2 v3 v4:Value):World:=((((w.setCell ⟨b,o,none⟩ v0).setCell ⟨b,o+1,none⟩ v1).setCell ⟨b,o+2,none⟩ v2).setCell ⟨b,o+3,none⟩ v3).setCell ⟨b,o+4,none⟩ v4
theorem pQ (w:World) (b o:Nat) (v0 v1 v2 v3 v4:Value):(iK w b o v0 v1 v2 v3 v4).heap.size=w.heap.size:=by simp [iK,World.setCell]
theorem nC {w:World} {b o o':Nat} {u:Value} {p:Addr} (h:p.block≠b∨p.off<o∨o+5≤p.off) (h1:o≤o') (h2:o'<o+5):(w.setCell ⟨b,o',none⟩ u).cell? p=w.cell? p:=by
 refine World.cell?_setCell_other w ⟨b,o',none⟩ p u ?_
 first
  |(intro e;subst e;simp at h;omega)
  |(obtain ⟨pb,po,ps⟩:=p;simp at h ⊢;omega)
theorem iU {w:World} {b o:Nat} {v0 v1 v2 v3 v4:Value} {p:Addr} (h:p.block≠b∨p.off<o∨o+5≤p.off):(iK w b o v0 v1 v2 v3 v4).cell? p=w.cell? p:=by
 unfold iK
 rw [nC h (by omega) (by omega),nC h (by omega) (by omega),nC h (by omega) (by omega),nC h (by omega) (by omega),nC h (by omega) (by omega)]
theorem jY {w:World} {b o:Nat} {v0 v1 v2 v3 v4:Value} (p:Addr):(iK w b o v0 v1 v2 v3 v4).frozen? p=w.frozen? p:=by
 unfold iK
 rw [World.frozen?_setCell,World.frozen?_setCell,World.frozen?_setCell,World.frozen?_setCell,World.frozen?_setCell]
theorem iV (w:World) (b o:Nat) (v0 v1 v2 v3 v4:Value):Apart b (b+1) w (iK w b o v0 v1 v2 v3 v4):=
 (((((Apart.refl _ _ w).setCell (p:=⟨b,o,none⟩) (Nat.le_refl _) (Nat.lt_succ_self _) _).setCell (p:=⟨b,o+1,none⟩) (Nat.le_refl _) (Nat.lt_succ_self _) _).setCell (p:=⟨b,o+2,none⟩) (Nat.le_refl _) (Nat.lt_succ_self _) _).setCell (p:=⟨b,o+3,none⟩) (Nat.le_refl _) (Nat.lt_succ_self _) _).setCell (p:=⟨b,o+4,none⟩) (Nat.le_refl _) (Nat.lt_succ_self _) _
theorem nD {B:Nat} {a w:World} (h:Below B a w) {b o:Nat} {v0 v1 v2 v3 v4:Value} (hb:B≤b):Below B a (iK w b o v0 v1 v2 v3 v4):=
 ((((h.setCell (p:=⟨b,o,none⟩) hb _).setCell (p:=⟨b,o+1,none⟩) hb _).setCell (p:=⟨b,o+2,none⟩) hb _).setCell (p:=⟨b,o+3,none⟩) hb _).setCell (p:=⟨b,o+4,none⟩) hb _
def Has (w:World) (b m:Nat):Prop:=∀ j,j<m→∃ v,w.cell? ⟨b,j,none⟩=some v
theorem Has.at5 {w:World} {b m o:Nat} (h:Has w b m) (ho:o+5≤m):∃ v0 v1 v2 v3 v4,w.cell? ⟨b,o,none⟩=some v0∧w.cell? ⟨b,o+1,none⟩=some v1∧w.cell? ⟨b,o+2,none⟩=some v2∧w.cell? ⟨b,o+3,none⟩=some v3∧w.cell? ⟨b,o+4,none⟩=some v4:=by
 obtain ⟨v0,h0⟩:=h o (by omega)
 obtain ⟨v1,h1⟩:=h (o+1) (by omega)
 obtain ⟨v2,h2⟩:=h (o+2) (by omega)
 obtain ⟨v3,h3⟩:=h (o+3) (by omega)
 obtain ⟨v4,h4⟩:=h (o+4) (by omega)
 exact ⟨v0,v1,v2,v3,v4,h0,h1,h2,h3,h4⟩
theorem wO {w:World} {b m o:Nat} {v0 v1 v2 v3 v4:Value} (h:Has w b m) (ho:o+5≤m):
 (iK w b o v0 v1 v2 v3 v4).cell? ⟨b,o,none⟩=some v0∧(iK w b o v0 v1 v2 v3 v4).cell? ⟨b,o+1,none⟩=some v1∧(iK w b o v0 v1 v2 v3 v4).cell? ⟨b,o+2,none⟩=some v2∧(iK w b o v0 v1 v2 v3 v4).cell? ⟨b,o+3,none⟩=some v3∧(iK w b o v0 v1 v2 v3 v4).cell? ⟨b,o+4,none⟩=some v4:=by
 obtain ⟨u0,u1,u2,u3,u4,h0,h1,h2,h3,h4⟩:=h.at5 ho
 unfold iK
 refine ⟨?_,?_,?_,?_,?_⟩
 ·rw [World.cell?_setCell_other _ _ _ _ (by simp),World.cell?_setCell_other _ _ _ _ (by simp),World.cell?_setCell_other _ _ _ _ (by simp),World.cell?_setCell_other _ _ _ _ (by simp),World.cell?_setCell_same _ _ _ h0]
 ·rw [World.cell?_setCell_other _ _ _ _ (by simp),World.cell?_setCell_other _ _ _ _ (by simp),World.cell?_setCell_other _ _ _ _ (by simp),World.cell?_setCell_same _ _ _ (by rw [World.cell?_setCell_other _ _ _ _ (by simp)];exact h1)]
 ·rw [World.cell?_setCell_other _ _ _ _ (by simp),World.cell?_setCell_other _ _ _ _ (by simp),World.cell?_setCell_same _ _ _ (by rw [World.cell?_setCell_other _ _ _ _ (by simp),World.cell?_setCell_other _ _ _ _ (by simp)];exact h2)]
 ·rw [World.cell?_setCell_other _ _ _ _ (by simp),World.cell?_setCell_same _ _ _ (by rw [World.cell?_setCell_other _ _ _ _ (by simp),World.cell?_setCell_other _ _ _ _ (by simp),World.cell?_setCell_other _ _ _ _ (by simp)];exact h3)]
 ·rw [World.cell?_setCell_same _ _ _ (by rw [World.cell?_setCell_other _ _ _ _ (by simp),World.cell?_setCell_other _ _ _ _ (by simp),World.cell?_setCell_other _ _ _ _ (by simp),World.cell?_setCell_other _ _ _ _ (by simp)];exact h4)]
theorem Has.iK {w:World} {b m o:Nat} {v0 v1 v2 v3 v4:Value} (h:Has w b m) (ho:o+5≤m):Has (iK w b o v0 v1 v2 v3 v4) b m:=fun j hj=>by
 obtain ⟨c0,c1,c2,c3,c4⟩:=wO (v0:=v0) (v1:=v1) (v2:=v2) (v3:=v3) (v4:=v4) h ho
 by_cases hx:j<o∨o+5≤j
 ·rw [iU (p:=⟨b,j,none⟩) (.inr hx)]
  exact h j hj
 ·obtain rfl|rfl|rfl|rfl|rfl:j=o∨j=o+1∨j=o+2∨j=o+3∨j=o+4:=by omega
  ·exact ⟨_,c0⟩
  ·exact ⟨_,c1⟩
  ·exact ⟨_,c2⟩
  ·exact ⟨_,c3⟩
  ·exact ⟨_,c4⟩
theorem Has.below {w w':World} {b m B:Nat} (h:Has w b m) (hb:Below B w w') (hlt:b<B):Has w' b m:=fun j hj=>by
 obtain ⟨v,hv⟩:=h j hj
 exact ⟨v,(hb.cell (p:=⟨b,j,none⟩) hlt).trans hv⟩
theorem Has.apart {w w':World} {b m lo hi:Nat} (h:Has w b m) (ha:Apart lo hi w w') (hlt:b<w.heap.size) (ho:b<lo∨hi≤b):Has w' b m:=fun j hj=>by
 obtain ⟨v,hv⟩:=h j hj
 exact ⟨v,(ha.cell (p:=⟨b,j,none⟩) hlt ho).trans hv⟩
def Part (w:World) (b n:Nat) (i l h:Nat) (t:VT):Prop:=l≤h∧t.bD∧∃ lv,pO w b (i*5) t lv∧aW w n l h lv t.list
theorem bV.imp' {α:Type} {E F:Nat→Nat→Nat→α→Prop} (hE:∀ i lo hi t,E i lo hi t→lo≤hi):∀ {ts:List α} {i lo hi:Nat},bV E i lo hi ts→(∀ j l h t,i≤j→j<i+ts.length→lo≤l→h≤hi→E j l h t→F j l h t)→bV F i lo hi ts∧lo≤hi
 |[],i,lo,hi,h,_=>⟨h,Nat.le_of_eq h⟩
 |a::ts,i,lo,hi,⟨m,h1,h2⟩,hf=>by
  have hlm:=hE _ _ _ _ h1
  obtain ⟨h3,h4⟩:=bV.imp' hE h2 fun j l h t hj hj' hl hh=>hf j l h t (by omega) (by simp only [List.length_cons];omega) (by omega) hh
  exact ⟨⟨m,hf _ _ _ _ (Nat.le_refl _) (by simp) (Nat.le_refl _) h4 h1,h3⟩,by omega⟩
theorem wP {w w':World} {b n i m hi x:Nat} {ts:List VT} (h:bV (Part w b n) i m hi ts) (hc:∀ j,i*5≤j→j<(i+ts.length)*5→w'.cell? ⟨b,j,none⟩=w.cell? ⟨b,j,none⟩) (ha:Apart b x w w') (hhi:hi≤w.heap.size) (hx:x≤m):bV (Part w' b n) i m hi ts:=
 (h.imp' (fun _ _ _ _ p=>p.1) (by
   rintro j l h t hj hj' hl hh ⟨e1,e2,lv,e3,e4⟩
   exact ⟨e1,e2,lv,⟨(hc _ (by omega) (by omega)).trans e3.kind,(hc _ (by omega) (by omega)).trans e3.num,(hc _ (by omega) (by omega)).trans e3.text,(hc _ (by omega) (by omega)).trans e3.list,(hc _ (by omega) (by omega)).trans e3.elem⟩,e4.apart ha (by omega) (by omega)⟩)).1
theorem SB {α:Type} {l:List α} {i:Nat} {t:α} (h:l[i]? =some t):l.take (i+1)=l.take i++[t]:=by
 rw [List.take_add_one,h];rfl
theorem take_len {α:Type} {l:List α} {i:Nat} (h:i≤l.length):(l.take i).length=i:=by simp;omega
theorem aeb {w:World} {b:Nat} {T:TypeId} {u0 u1 u2 u3 u4 v0 v1 v2 v3 v4:Value} (h:w.heap[b]? =some (.cells #[u0,u1,u2,u3,u4] T (0,0))):(iK w b 0 v0 v1 v2 v3 v4).heap[b]? =some (.cells #[v0,v1,v2,v3,v4] T (0,0)):=
 heap_setCell_same _ b 4 _ T _ (heap_setCell_same _ b 3 _ T _ (heap_setCell_same _ b 2 _ T _ (heap_setCell_same _ b 1 _ T _ (heap_setCell_same _ b 0 _ T _ h))))
theorem aW.lo {w:World} {n lo lo' hi:Nat} {v:Value} {ts:List VT} (h:aW w n lo hi v ts) (hlo:lo'≤lo):aW w n lo' hi v ts:=by
 cases n with
 |zero=>exact h.elim
 |succ n=>
  obtain ⟨b,m,h1,h2,h3⟩:=h
  exact ⟨b,m,h1,by omega,h3⟩
theorem aW.form {w:World} {n lo hi:Nat} {v:Value} {ts:List VT} (h:aW w n lo hi v ts):∃ b,v= .slice (some ⟨b,0,none⟩) ts.length (ts.length+3):=by
 cases n with
 |zero=>exact h.elim
 |succ n=>obtain ⟨b,m,h1,_⟩:=h;exact ⟨b,h1⟩
structure zF (w wr:World) (N j:Nat) (l:List VT):Prop where
 below:Below w.heap.size w wr
 lt:w.heap.size<wr.heap.size
 has:Has wr w.heap.size ((l.length+3)*5)
 o9:∀ o,wr.frozen? ⟨w.heap.size,o,none⟩=false
 parts:bV (Part wr w.heap.size N) 0 (w.heap.size+1) wr.heap.size (l.take j)
 marks:∀ k,l.length≤k→k<j→pO wr w.heap.size (k*5) (markT k) (.slice none 0 0)
theorem zF.mark {w wr:World} {N j:Nat} {l:List VT} (h:zF w wr N j l) (hj:l.length≤j) (hj3:j<l.length+3):zF w (iK wr w.heap.size (j*5) (.int .i64 (-7)) (.int .u64 j) (.string ⟨#[]⟩) (.slice none 0 0) (.int .i64 0)) N (j+1) l:=by
 have hz:=pQ wr w.heap.size (j*5) (.int .i64 (-7)) (.int .u64 j) (.string ⟨#[]⟩) (.slice none 0 0) (.int .i64 0)
 obtain ⟨c0,c1,c2,c3,c4⟩:=wO (v0:= .int .i64 (-7)) (v1:= .int .u64 j) (v2:= .string ⟨#[]⟩) (v3:= .slice none 0 0) (v4:= .int .i64 0) h.has (o:=j*5) (by omega)
 refine ⟨nD h.below (Nat.le_refl _),by rw [hz];exact h.lt,h.has.iK (by omega),fun o=>(jY _).trans (h.o9 o),?_,fun k hk hk'=>?_⟩
 ·rw [List.take_of_length_le (by omega)]
  have hp:=h.parts
  rw [List.take_of_length_le (by omega)] at hp
  rw [hz]
  exact wP hp (fun o ho ho'=>iU (.inr (.inl (by show o<j*5;omega)))) (iV _ _ _ _ _ _ _ _) (Nat.le_refl _) (Nat.le_refl _)
 ·by_cases e:k=j
  ·subst e;exact ⟨c0,c1,c2,c3,c4⟩
  ·obtain ⟨a0,a1,a2,a3,a4⟩:=h.marks k hk (by omega)
   have x:∀ i,i<5→(iK wr w.heap.size (j*5) (.int .i64 (-7)) (.int .u64 j) (.string ⟨#[]⟩) (.slice none 0 0) (.int .i64 0)).cell? ⟨w.heap.size,k*5+i,none⟩=wr.cell? ⟨w.heap.size,k*5+i,none⟩:=fun i hi=>iU (.inr (.inl (by show k*5+i<j*5;omega)))
   exact ⟨(x 0 (by omega)).trans a0,(x 1 (by omega)).trans a1,(x 2 (by omega)).trans a2,(x 3 (by omega)).trans a3,(x 4 (by omega)).trans a4⟩
theorem zF.part {w wr w2:World} {N j:Nat} {l:List VT} {t:VT} {v':Value} (h:zF w wr N j l) (ht:l[j]? =some t) (hf:t.bD)
 (u0 u1 u2 u3 u4:Value) (hb:Below (iK wr w.heap.size (j*5) u0 u1 u2 u3 u4).heap.size (iK wr w.heap.size (j*5) u0 u1 u2 u3 u4) w2) (hl:aW w2 N (iK wr w.heap.size (j*5) u0 u1 u2 u3 u4).heap.size w2.heap.size v' t.list):
 zF w (iK w2 w.heap.size (j*5) (.int .i64 t.kind) (.int .u64 t.num) (.string t.text) v' (.int .i64 t.elem)) N (j+1) l:=by
 have hj:j<l.length:=(List.getElem?_eq_some_iff.1 ht).1
 have hlt:=h.lt
 have hz1:=pQ wr w.heap.size (j*5) u0 u1 u2 u3 u4
 have hz2:=pQ w2 w.heap.size (j*5) (.int .i64 t.kind) (.int .u64 t.num) (.string t.text) v' (.int .i64 t.elem)
 have hs2:=hb.size
 rw [hz1] at hb hl hs2
 have ag3:=h.has.iK (o:=j*5) (v0:=u0) (v1:=u1) (v2:=u2) (v3:=u3) (v4:=u4) (by omega)
 have ZL:Has w2 w.heap.size ((l.length+3)*5):=ag3.below hb hlt
 obtain ⟨c0,c1,c2,c3,c4⟩:=wO (v0:= .int .i64 t.kind) (v1:= .int .u64 t.num) (v2:= .string t.text) (v3:=v') (v4:= .int .i64 t.elem) ZL (o:=j*5) (by omega)
 have hle:=hl.le
 refine ⟨nD ((nD h.below (Nat.le_refl _)).trans (hb.mono (by omega))) (Nat.le_refl _),by rw [hz2];omega,ZL.iK (by omega),fun o=>(jY _).trans ((hb.frozen (p:=⟨_,o,none⟩) hlt).trans ((jY _).trans (h.o9 o))),?_,fun k hk hk'=>by omega⟩
 rw [SB ht,hz2]
 refine bV.snoc (mid:=wr.heap.size) ?_ ?_
 ·have ha:Apart w.heap.size (w.heap.size+1) wr (iK w2 w.heap.size (j*5) (.int .i64 t.kind) (.int .u64 t.num) (.string t.text) v' (.int .i64 t.elem)):=
   ((iV wr w.heap.size (j*5) u0 u1 u2 u3 u4).trans (Apart.of_below hb (by rw [hz1];exact Nat.le_refl _))).trans (iV _ _ _ _ _ _ _ _)
  refine wP h.parts (fun o ho ho'=>?_) ha (Nat.le_refl _) (Nat.le_refl _)
  rw [take_len (by omega)] at ho'
  rw [iU (.inr (.inl (by show o<j*5;omega))),hb.cell (p:=⟨w.heap.size,o,none⟩) hlt,iU (.inr (.inl (by show o<j*5;omega)))]
 ·rw [take_len (by omega),Nat.zero_add]
  refine ⟨by omega,hf,v',⟨c0,c1,c2,c3,c4⟩,?_⟩
  exact hl.apart (iV _ _ _ _ _ _ _ _) (Nat.le_refl _) (.inr (by omega))
theorem zF.done {w wr:World} {N:Nat} {l:List VT} (h:zF w wr N (l.length+3) l) (hl:l.length≤100000):aW wr (N+1) w.heap.size wr.heap.size (.slice (some ⟨w.heap.size,0,none⟩) l.length (l.length+3)) l:=by
 have hp:=h.parts
 rw [List.take_of_length_le (by omega)] at hp
 exact ⟨w.heap.size,w.heap.size+1,rfl,Nat.le_refl _,Nat.lt_succ_self _,hl,h.o9,fun k hk=>h.marks _ (by omega) (by omega),hp⟩
theorem zF.start {w:World} {N:Nat} {l:List VT} {C:Array Value} {T:TypeId} (hC:C.size=(l.length+3)*5):zF w (w.alloc (.cells C T)) N 0 l:=by
 refine ⟨(Below.refl _ _).alloc (Nat.le_refl _) _,by rw [show (w.alloc (.cells C T)).heap.size=w.heap.size+1 from Array.size_push ..];omega,fun j hj=>?_,fun o=>World.frozen?_alloc_new _ _ _ _,?_,fun k _ hk=>by omega⟩
 ·rw [World.cell?_alloc_new]
  exact ⟨_,Array.getElem?_eq_getElem (by omega)⟩
 ·exact (Array.size_push ..).symm
structure Ki (w wr:World) (N b lo hi j:Nat) (l:List VT):Prop where
 apart:Apart lo hi w wr
 has:Has wr b ((l.length+3)*5)
 o9:∀ o,wr.frozen? ⟨b,o,none⟩=false
 parts:∃ mid,b<mid∧bV (Part wr b N) j mid hi (l.drop j)
 marks:∀ k,l.length≤k→k<l.length+3→j≤k→pO wr b (k*5) (markT k) (.slice none 0 0)
theorem rZ {w:World} {N lo hi:Nat} {v:Value} {l:List VT} (h:aW w (N+1) lo hi v l):∃ b,v= .slice (some ⟨b,0,none⟩) l.length (l.length+3)∧lo≤b∧b<hi∧l.length≤100000∧Ki w w N b lo hi 0 l:=by
 obtain ⟨b,m,hv,h1,h2,h3,h4,h5,hc⟩:=h
 have hm:=(hc.imp (fun i l h t h=>h.1) fun _ _ _ _ _ _ h=>h).2
 refine ⟨b,hv,h1,by omega,h3,Apart.refl _ _ _,fun j hj=>?_,h4,⟨m,h2,hc⟩,fun k hk hk' _=>by have:=h5 (k-l.length) (by omega);rwa [show l.length+(k-l.length)=k by omega] at this⟩
 by_cases hjl:j<l.length*5
 ·obtain ⟨x,y,_,_,_,_,lv,e,_⟩:=hc.at_ (fun i l h t h=>h.1) (k:=j/5) (List.getElem?_eq_getElem (by omega))
  rw [Nat.zero_add] at e
  obtain h|h|h|h|h:j=j/5*5∨j=j/5*5+1∨j=j/5*5+2∨j=j/5*5+3∨j=j/5*5+4:=by omega
  ·rw [h];exact ⟨_,e.kind⟩
  ·rw [h];exact ⟨_,e.num⟩
  ·rw [h];exact ⟨_,e.text⟩
  ·rw [h];exact ⟨_,e.list⟩
  ·rw [h];exact ⟨_,e.elem⟩
 ·have e:=h5 (j/5-l.length) (by omega)
  rw [show l.length+(j/5-l.length)=j/5 by omega] at e
  obtain h|h|h|h|h:j=j/5*5∨j=j/5*5+1∨j=j/5*5+2∨j=j/5*5+3∨j=j/5*5+4:=by omega
  ·rw [h];exact ⟨_,e.kind⟩
  ·rw [h];exact ⟨_,e.num⟩
  ·rw [h];exact ⟨_,e.text⟩
  ·rw [h];exact ⟨_,e.list⟩
  ·rw [h];exact ⟨_,e.elem⟩
theorem Ki.head {w wr:World} {N b lo hi j:Nat} {l:List VT} {t:VT} (h:Ki w wr N b lo hi j l) (ht:l[j]? =some t) (hlo:lo≤b) (hbs:hi≤w.heap.size):
 ∃ x y lv,b<x∧y≤hi∧t.bD∧pO wr b (j*5) t lv∧aW wr N x y lv t.list∧
   ∀ w2,Apart x y wr w2→∀ u0 u1 u2 u3 u4,Ki w (iK w2 b (j*5) u0 u1 u2 u3 u4) N b lo hi (j+1) l:=by
 obtain ⟨mid,hm,hc⟩:=h.parts
 have hj:j<l.length:=(List.getElem?_eq_some_iff.1 ht).1
 rw [List.drop_eq_getElem_cons hj,show l[j]=t from (List.getElem?_eq_some_iff.1 ht).2] at hc
 obtain ⟨y,⟨h1,hf,lv,ha,hl⟩,hc2⟩:=hc
 have hy:=(hc2.imp (fun i l h t h=>h.1) fun _ _ _ _ _ _ h=>h).2
 have hs:=h.apart.size
 have hle:=hl.le
 have hb:b<wr.heap.size:=by omega
 refine ⟨mid,y,lv,hm,hy,hf,ha,hl,fun w2 ha2 u0 u1 u2 u3 u4=>?_⟩
 have hs2:=ha2.size
 have c2:∀ o,w2.cell? ⟨b,o,none⟩=wr.cell? ⟨b,o,none⟩:=fun o=>ha2.cell (p:=⟨b,o,none⟩) hb (.inl hm)
 have ZL:Has w2 b ((l.length+3)*5):=h.has.apart ha2 hb (.inl hm)
 refine ⟨(h.apart.trans (ha2.wide (by omega) hy)).trans ((iV _ _ _ _ _ _ _ _).wide hlo (by omega)),ZL.iK (by omega),fun o=>(jY _).trans ((ha2.frozen (p:=⟨b,o,none⟩) hb (.inl hm)).trans (h.o9 o)),⟨y,by omega,?_⟩,fun k hk hk' hjk=>?_⟩
 ·have h2:bV (Part w2 b N) (j+1) y hi (l.drop (j+1)):=(hc2.imp (fun i l h t h=>h.1) (by
   rintro i x1 x2 t' hx1 hx2 ⟨p1,p2,lv2,p3,p4⟩
   exact ⟨p1,p2,lv2,⟨(c2 _).trans p3.kind,(c2 _).trans p3.num,(c2 _).trans p3.text,(c2 _).trans p3.list,(c2 _).trans p3.elem⟩,p4.apart ha2 (by omega) (.inr hx1)⟩)).1
  exact wP h2 (fun o ho _=>iU (.inr (.inr (by show j*5+5≤o;omega)))) (iV _ _ _ _ _ _ _ _) (by omega) (by omega)
 ·obtain ⟨a0,a1,a2,a3,a4⟩:=h.marks k hk hk' (by omega)
  have x:∀ i,i<5→(iK w2 b (j*5) u0 u1 u2 u3 u4).cell? ⟨b,k*5+i,none⟩=wr.cell? ⟨b,k*5+i,none⟩:=fun i hi=>(iU (.inr (.inr (by show j*5+5≤k*5+i;omega)))).trans (c2 _)
  exact ⟨(x 0 (by omega)).trans a0,(x 1 (by omega)).trans a1,(x 2 (by omega)).trans a2,(x 3 (by omega)).trans a3,(x 4 (by omega)).trans a4⟩
theorem Ki.mark {w wr:World} {N b lo hi j:Nat} {l:List VT} (h:Ki w wr N b lo hi j l) (hj:l.length≤j) (hj3:j<l.length+3) (hlo:lo≤b) (hbh:b<hi) (_hbs:hi≤w.heap.size) (u0 u1 u2 u3 u4:Value):Ki w (iK wr b (j*5) u0 u1 u2 u3 u4) N b lo hi (j+1) l:=by
 obtain ⟨mid,hm,hc⟩:=h.parts
 rw [List.drop_eq_nil_of_le hj] at hc
 refine ⟨h.apart.trans ((iV _ _ _ _ _ _ _ _).wide hlo (by omega)),h.has.iK (by omega),fun o=>(jY _).trans (h.o9 o),⟨mid,hm,by rw [List.drop_eq_nil_of_le (by omega)];exact hc⟩,fun k hk hk' hjk=>?_⟩
 obtain ⟨a0,a1,a2,a3,a4⟩:=h.marks k hk hk' (by omega)
 have x:∀ i,i<5→(iK wr b (j*5) u0 u1 u2 u3 u4).cell? ⟨b,k*5+i,none⟩=wr.cell? ⟨b,k*5+i,none⟩:=fun i hi=>iU (.inr (.inr (by show j*5+5≤k*5+i;omega)))
 exact ⟨(x 0 (by omega)).trans a0,(x 1 (by omega)).trans a1,(x 2 (by omega)).trans a2,(x 3 (by omega)).trans a3,(x 4 (by omega)).trans a4⟩
mutual
def mM:VT→VT→Bool
 | .mk k m s e l,.mk k' m' s' e' l'=>(k==k')&&((m==m')&&((s.toList==s'.toList)&&((e==e')&&iQ l l')))
def iQ:List VT→List VT→Bool
 |[],[]=>true
 |a::l,b::r=>mM a b&&iQ l r
 |_,_=>false
end
theorem Cm (a b:VT):mM a b=((a.kind==b.kind)&&((a.num==b.num)&&((a.text.toList==b.text.toList)&&((a.elem==b.elem)&&iQ a.list b.list)))):=by
 cases a;cases b;simp [mM,VT.kind,VT.num,VT.text,VT.elem,VT.list]
theorem Cn:∀ {l r:List VT},l.length≠r.length→iQ l r=false
 |[],[],h=>absurd rfl h
 |[],_::_,_=>by simp [iQ]
 |_::_,[],_=>by simp [iQ]
 |a::l,b::r,h=>by
  have:=Cn (l:=l) (r:=r) (by simpa using h)
  simp [iQ,this]
theorem F7 {l r:List VT} {k:Nat} {a b:VT} (ha:l[k]? =some a) (hb:r[k]? =some b):iQ (l.drop k) (r.drop k)=(mM a b&&iQ (l.drop (k+1)) (r.drop (k+1))):=by
 have h1:l.drop k=a::l.drop (k+1):=by
  rw [List.drop_eq_getElem_cons (List.getElem?_eq_some_iff.1 ha).1];congr 1;exact (List.getElem?_eq_some_iff.1 ha).2
 have h2:r.drop k=b::r.drop (k+1):=by
  rw [List.drop_eq_getElem_cons (List.getElem?_eq_some_iff.1 hb).1];congr 1;exact (List.getElem?_eq_some_iff.1 hb).2
 rw [h1,h2,iQ]
theorem Kj {l r:List VT} (h:l.length=r.length):iQ (l.drop l.length) (r.drop l.length)=true:=by
 rw [List.drop_length,h,List.drop_length,iQ]
theorem toList_inj {s s':ByteArray} (h:s.toList=s'.toList):s=s':=by
 rw [Lib.toList_data,Lib.toList_data] at h
 cases s;cases s'
 congr 1
 exact Array.toList_inj.1 h
def V5 (a b:VT):Prop:=a.kind=b.kind∧a.num=b.num∧a.text=b.text∧a.elem=b.elem∧a.list.length=b.list.length
theorem ZM {a b:VT} (h:¬V5 a b):mM a b=false:=by
 rw [Cm]
 by_cases h5:a.list.length=b.list.length
 ·by_cases h1:a.kind=b.kind
  ·by_cases h2:a.num=b.num
   ·by_cases h3:a.text=b.text
    ·by_cases h4:a.elem=b.elem
     ·exact absurd ⟨h1,h2,h3,h4,h5⟩ h
     ·simp [h4]
    ·have:¬a.text.toList=b.text.toList:=fun hh=>h3 (toList_inj hh)
     simp [this]
   ·simp [h2]
  ·simp [h1]
 ·simp [Cn h5]
theorem V6 {a b:VT} (h:V5 a b):mM a b=iQ a.list b.list:=by
 obtain ⟨h1,h2,h3,h4,_⟩:=h
 rw [Cm]
 simp [h1,h2,h3,h4]
def Cells (w:World) (b o:Nat) (cs:List Value):Prop:=∀ j u,cs[j]? =some u→w.cell? ⟨b,o+j,none⟩=some u
theorem Cells.below {B:Nat} {w w':World} {b o:Nat} {cs:List Value} (h:Cells w b o cs) (hb:Below B w w') (hlt:b<B):Cells w' b o cs:=fun j u hu=>(hb.cell (p:=⟨b,_,none⟩) hlt).trans (h j u hu)
theorem Cells.apart {lo hi:Nat} {w w':World} {b o:Nat} {cs:List Value} (h:Cells w b o cs) (ha:Apart lo hi w w') (hb:b<w.heap.size) (ho:b<lo∨hi≤b):Cells w' b o cs:=fun j u hu=>(ha.cell (p:=⟨b,_,none⟩) hb ho).trans (h j u hu)
theorem Ih {α:Type} {l:List α} {k:Nat} {a:α} (hk:l[k]? =some a):l.drop k=a::l.drop (k+1):=by
 rw [List.drop_eq_getElem_cons (List.getElem?_eq_some_iff.1 hk).1]
 congr 1
 exact (List.getElem?_eq_some_iff.1 hk).2
mutual
theorem Co:∀ t:VT,mM t t=true
 | .mk k m s e l=>by rw [mM];simp [F8 l]
theorem F8:∀ l:List VT,iQ l l=true
 |[]=>by rw [iQ]
 |t::l=>by rw [iQ,Co t,F8 l];rfl
end
abbrev wQ (F:Type):=Nat→Option (F×Nat)
def vS {F:Type} (pat:F→List Value) (own:wQ F) (w:World) (f:F) (m N:Nat) (v:Value):Prop:=
 v= .slice none 0 0∨∃ b off n c,v= .slice (some ⟨b,off,none⟩) n c∧own b=some (f,off)∧n≤c∧n≤N∧w.there b off (c*(pat f).length)∧
  ∀ k,k<m→k<n→∀ j x,(pat f)[j]? =some x→w.cell? ⟨b,off+k*(pat f).length+j,none⟩=some x
section
variable {F:Type} {pat:F→List Value} {own own':wQ F} {w w':World} {f f':F} {m m' N N':Nat} {v:Value}
theorem dQ {b o n:Nat} (h:w.there b o n) (e:w'.heap[b]? =w.heap[b]?):w'.there b o n:=fun j hj=>
 ⟨by rw [World.cell?_of_block (a:=⟨b,o+j,none⟩) e];exact (h j hj).1,by rw [World.frozen?_of_block (a:=⟨b,o+j,none⟩) e];exact (h j hj).2⟩
theorem vS.heap (h:vS pat own w f m N v) (he:∀ b x,own b=some x→own' b=some x∧w'.heap[b]? =w.heap[b]?):vS pat own' w' f m N v:=by
 rcases h with h|⟨b,off,n,c,h1,h2,h3,h4,h5,h6⟩
 ·exact .inl h
 ·obtain ⟨e1,e2⟩:=he b _ h2
  exact .inr ⟨b,off,n,c,h1,e1,h3,h4,dQ h5 e2,fun k hk hn j x hx=>(World.cell?_of_block (a:=⟨b,_,none⟩) e2).trans (h6 k hk hn j x hx)⟩
theorem si {k c z j:Nat} (hj:j<z) (h:k<c):k*z+j<c*z:=by
 have:=Nat.mul_le_mul_right z (show k+1≤c by omega)
 rw [Nat.add_mul] at this;omega
theorem sj {b off c z k:Nat} (h:w.there b off (c*z)) (hk:k<c):w.there b (off+k*z) z:=fun j hj=>by
 have:=h (k*z+j) (si hj hk)
 rwa [←Nat.add_assoc] at this
theorem jZ {b o:Nat} {vs:List Value} (h:w.there b o vs.length) {j:Nat} {x:Value} (hx:vs[j]? =some x):(w.setCells b o vs).cell? ⟨b,o+j,none⟩=some x:=by
 have hj:=(List.getElem?_eq_some_iff.1 hx).1
 rw [World.cell?_setCells_in b vs o w (fun j hj=>(h j hj).1) j hj]
 exact congrArg some (List.getElem?_eq_some_iff.1 hx).2
theorem vS.write {b off k c:Nat} (hb:own b=some (f,off)) (ht:w.there b off (c*(pat f).length)) (hk:k<c) (h:vS pat own w f' m N v):
 vS pat own (w.setCells b (off+k*(pat f).length) (pat f)) f' m N v:=by
 rcases h with h|⟨b',off',n,c',h1,h2,h3,h4,h5,h6⟩
 ·exact .inl h
 ·refine .inr ⟨b',off',n,c',h1,h2,h3,h4,World.there_setCells h5 _ _ _,fun k' hk' hn j x hx=>?_⟩
  by_cases e:b'=b
  ·subst e
   rw [hb] at h2
   cases h2
   have hj:=(List.getElem?_eq_some_iff.1 hx).1
   by_cases e:k'=k
   ·subst e
    exact jZ (sj ht hk) hx
   ·rw [World.cell?_setCells_out]
    ·exact h6 k' hk' hn j x hx
    ·intro _ _
     show off+k'*(pat f).length+j<off+k*(pat f).length∨off+k*(pat f).length+(pat f).length≤off+k'*(pat f).length+j
     rcases Nat.lt_or_gt_of_ne e with e|e
     ·have:=si hj e;omega
     ·have:=Nat.mul_le_mul_right (pat f).length (show k+1≤k' by omega)
      rw [Nat.add_mul] at this;omega
  ·rw [World.cell?_setCells_out _ _ _ _ _ (fun h=>absurd h e)]
   exact h6 k' hk' hn j x hx
theorem vS.next {b off n c:Nat} (h:vS pat own w f m N (.slice (some ⟨b,off,none⟩) n c)) (hm:m<n):vS pat own (w.setCells b (off+m*(pat f).length) (pat f)) f (m+1) N (.slice (some ⟨b,off,none⟩) n c):=by
 rcases h with h|⟨b',off',n',c',h1,h2,h3,h4,h5,h6⟩
 ·cases h
 ·cases h1
  refine .inr ⟨b,off,n,c,rfl,h2,h3,h4,World.there_setCells h5 _ _ _,fun k' hk' hn j x hx=>?_⟩
  have hj:=(List.getElem?_eq_some_iff.1 hx).1
  by_cases e:k'=m
  ·subst e
   exact jZ (sj h5 (by omega)) hx
  ·rw [World.cell?_setCells_out]
   ·exact h6 k' (by omega) hn j x hx
   ·intro _ _
    have:=si hj (show k'<m by omega)
    exact .inl (by show off+k'*(pat f).length+j<off+m*(pat f).length;omega)
end
structure fJ {F:Type} (pat:F→List Value) (own:wQ F) (w:World) (own':wQ F) (w':World) (row:Option Nat):Prop where
 os:w'.os=w.os
 tape:w'.tape=w.tape
 output:w'.output=w.output
 size:w.heap.size≤w'.heap.size
 old:∀ b,b<w.heap.size→own' b=own b
 dom:∀ b x,own' b=some x→b<w'.heap.size
 kept:∀ b,b<w.heap.size→own b=none→some b≠row→w'.heap[b]? =w.heap[b]?
 ZN:∀ f m N v,vS pat own w f m N v→vS pat own' w' f m N v
section
variable {F:Type} {pat:F→List Value} {own own' V7:wQ F} {w w' w'':World} {row:Option Nat}
theorem fJ.refl (hd:∀ b x,own b=some x→b<w.heap.size):fJ pat own w own w row:=⟨rfl,rfl,rfl,Nat.le_refl _,fun _ _=>rfl,hd,fun _ _ _ _=>rfl,fun _ _ _ _ h=>h⟩
theorem fJ.grown (hd:∀ b x,own b=some x→b<w.heap.size) (hg:w.grownBy w' row) (hr:∀ k,row=some k→own k=none):fJ pat own w own w' row:=
 ⟨hg.os,hg.tape,hg.output,hg.size,fun _ _=>rfl,fun b x h=>Nat.lt_of_lt_of_le (hd b x h) hg.size,fun b hb _ hne=>hg.block b hb hne,
   fun f m N v hv=>hv.heap fun b x h=>⟨h,hg.block b (hd b x h) fun e=>by rw [hr b e.symm] at h;cases h⟩⟩
theorem fJ.below {B:Nat} (h:fJ pat own w own' w' none) (hB:B≤w.heap.size) (hn:∀ b,b<B→own b=none):Below B w w':=
 ⟨h.os,h.tape,h.output,h.size,fun b hb=>h.kept b (by omega) (hn b hb) (by simp)⟩
theorem A7 (w:World) (o:Obj):w.grownBy (w.alloc o) none:=⟨rfl,rfl,rfl,by simp,fun k hk _=>Below.heap_alloc w o k hk⟩
theorem gz (b:Nat):∀ (vs:List Value) (o:Nat) (w:World),w.grownBy (w.setCells b o vs) (some b)
 |[],_,w=>⟨rfl,rfl,rfl,Nat.le_refl _,fun _ _ _=>rfl⟩
 |v::vs,o,w=>by
  have h:=gz b vs (o+1) (w.setCell ⟨b,o,none⟩ v)
  have hz:(w.setCell ⟨b,o,none⟩ v).heap.size=w.heap.size:=by simp [World.setCell]
  exact ⟨h.os,h.tape,h.output,by have:=h.size;rw [hz] at this;exact this,fun k hk hne=>(h.block k (by omega) hne).trans (Below.heap_setCell w ⟨b,o,none⟩ v k (fun e=>hne (by rw [e])))⟩
theorem fJ.write (hd:∀ b x,own b=some x→b<w.heap.size) {f:F} {b off k c:Nat} (hb:own b=some (f,off)) (ht:w.there b off (c*(pat f).length)) (hk:k<c):
 fJ pat own w own (w.setCells b (off+k*(pat f).length) (pat f)) none:=by
 have hg:=gz b (pat f) (off+k*(pat f).length) w
 exact ⟨hg.os,hg.tape,hg.output,hg.size,fun _ _=>rfl,fun b' x h=>Nat.lt_of_lt_of_le (hd b' x h) hg.size,
  fun b' hb' h0 _=>hg.block b' hb' (fun e=>by cases e;rw [hb] at h0;cases h0),fun f' m N v hv=>hv.write hb ht hk⟩
end
section
variable {F:Type} {pat:F→List Value} {own:wQ F} {P:Program}
def zG (n:Nat) (l:List Value):List Value:=(List.replicate n l).flatten
theorem su (l:List Value):∀ n,(zG n l).length=n*l.length
 |0=>by simp [zG]
 |n+1=>by
  have:=su l n
  unfold zG at this ⊢
  rw [List.replicate_succ,List.flatten_cons,List.length_append,this,Nat.add_mul];omega
theorem SC (n:Nat) (l:List Value):zG n l++l=zG (n+1) l:=by
 unfold zG
 rw [List.replicate_succ',List.flatten_append];simp
theorem Cq {l:List Value} {j:Nat} (hj:j<l.length):∀ {n k:Nat},k<n→(zG n l)[k*l.length+j]? =l[j]?
 |0,k,h=>by omega
 |n+1,0,_=>by
  unfold zG
  rw [List.replicate_succ,List.flatten_cons,Nat.zero_mul,Nat.zero_add,List.getElem?_append_left hj]
 |n+1,k+1,h=>by
  have:=Cq hj (n:=n) (k:=k) (by omega)
  unfold zG at this ⊢
  rw [List.replicate_succ,List.flatten_cons,List.getElem?_append_right (by rw [Nat.add_mul];omega),←this]
  congr 1
  rw [Nat.add_mul];omega
theorem V8 {l:List Value} (h0:0<l.length) {n j:Nat} {u:Value} (h:(zG n l)[j]? =some u):∃ k i,j=k*l.length+i∧k<n∧l[i]? =some u:=by
 have hj:=(List.getElem?_eq_some_iff.1 h).1
 rw [su] at hj
 have hi:j%l.length<l.length:=Nat.mod_lt _ h0
 have hk:j/l.length<n:=(Nat.div_lt_iff_lt_mul h0).2 hj
 have e:j=j/l.length*l.length+j%l.length:=by rw [Nat.mul_comm];exact (Nat.div_add_mod j l.length).symm
 refine ⟨j/l.length,j%l.length,e,hk,?_⟩
 rw [←Cq hi hk,←e];exact h
theorem Q3 {w w':World} {f:F} {n N:Nat} {v':Value} {e:TypeId} (_h0:0<(pat f).length) (hd:∀ b x,own b=some x→b<w.heap.size) (hg:w.grownBy w' none)
 (ho:w'.ownsRow w.heap.size e (pat f).length v' (n+1) (zG n (pat f)++pat f)) (hn:n+1≤N):
 ∃ own',fJ pat own w own' w' none∧vS pat own' w' f N N v'∧∃ g c,v'= .slice (some ⟨g,0,none⟩) (n+1) c:=by
 rcases ho.2 with ⟨_,h⟩|⟨g,cap,cur,rfl,hbg,hgc,hnc,_,hcs,htk⟩
 ·omega
 ·have hgs:g<w'.heap.size:=(Array.getElem?_eq_some_iff.1 hgc).1
  refine ⟨fun b=>if b=g then some (f,0) else own b,⟨hg.os,hg.tape,hg.output,hg.size,fun b hb=>if_neg (by omega),fun b x h=>?_,fun b hb _ _=>hg.block b hb (by simp),fun f' m N v hv=>hv.heap fun b x h=>?_⟩,?_,g,cap,rfl⟩
  ·by_cases hb:b=g
   ·omega
   ·rw [if_neg hb] at h;exact Nat.lt_of_lt_of_le (hd b x h) hg.size
  ·have:=hd b x h
   exact ⟨by rw [if_neg (by omega)];exact h,hg.block b this (by simp)⟩
  ·refine .inr ⟨g,0,n+1,cap,rfl,if_pos rfl,hnc,hn,fun j hj=>⟨?_,?_⟩,fun k _ hk j x hx=>?_⟩
   ·unfold World.cell?
    rw [hgc]
    simp
    omega
   ·unfold World.frozen?
    rw [hgc]
    simp
   ·have hj:=(List.getElem?_eq_some_iff.1 hx).1
    rw [SC] at htk
    have h1:=Cq hj hk
    rw [←htk,List.getElem?_take_of_lt (si hj hk),Array.getElem?_toList,hx] at h1
    unfold World.cell?
    rw [hgc]
    simpa using h1
theorem Cr (w:World) (t ty e:TypeId) (i:TypeInfo) (z:Value) (size bytes:Nat) (ht:P.underlying t=some (.slice e)) (hi:P.info? e=some i) (hz:i.zero=some z)
 (hsize:i.size=size) (hby:i.bytes=bytes) (hzs:z.cells.size=size) (hsz:0<size) (f:F) (hp:(pat f).length=size) (h1:∀ u∈pat f,u.oneCell'=true)
 (hd:∀ b x,own b=some x→b<w.heap.size) {N:Nat} {v:Value} (hv:vS pat own w f N N v) (hN:N+1≤maxLen) (hNb:(N+1)*bytes≤140737488355328)
 (a:Addr) (hnews:∀ j u,(pat f)[j]? =some u→w.cell? (a.add j)=some u):
 ∃ v' w' own',(Builtin.append_ #[t,t] ty #[v,.slice (some a) 1 1]).run P w= .ok v' w'∧fJ pat own w own' w' none∧vS pat own' w' f (N+1) (N+1) v'∧∃ g off n c,v'= .slice (some ⟨g,off,none⟩) (n+1) c:=by
 subst hsize
 have hp0:0<(pat f).length:=by omega
 rcases hv with rfl|⟨b,off,n,c,rfl,hb,hnc,hnN,hth,hm⟩
 ·obtain ⟨v',w',hr,h2,h3,_⟩:=run_append_own_at (P:=P) w w.heap.size t ty e i z i.size bytes ht hi hz rfl hby hzs hsz (.slice none 0 0) 0 [] (World.ownsRow_nil w _ e i.size) a 1 1 (pat f) (by omega) hnews h1 (by omega) (by have:=Nat.mul_le_mul_right bytes (show 0+1≤N+1 by omega);omega) (Nat.le_refl _)
  rw [←hp] at h2
  obtain ⟨own',s1,s2,g,c,s3⟩:=Q3 (n:=0) (N:=N+1) hp0 hd h3 (by simpa [zG] using h2) (by omega)
  exact ⟨v',w',own',hr,s1,s2,g,0,0,c,s3⟩
 ·by_cases hroom:n+1≤c
  ·have acj:w.there b (off+n*(pat f).length) (pat f).length:=sj hth (by omega)
   have hr:=run_append_room_cells (P:=P) w t ty e i ht hi b off n c a 1 1 (pat f) (by omega) hnews h1 hroom (fun j hj=>by rw [←hp];exact (acj j hj).1) (fun j hj=>by rw [←hp];exact (acj j hj).2)
   rw [←hp] at hr
   refine ⟨_,_,own,hr,fJ.write hd hb hth (by omega),?_,b,off,n,c,rfl⟩
   refine .inr ⟨b,off,n+1,c,rfl,hb,hroom,by omega,World.there_setCells hth _ _ _,fun k _ hk j x hx=>?_⟩
   have hj:=(List.getElem?_eq_some_iff.1 hx).1
   by_cases e:k=n
   ·subst e;exact jZ acj hx
   ·rw [World.cell?_setCells_out]
    ·exact hm k (by omega) (by omega) j x hx
    ·intro _ _
     have:=si hj (show k<n by omega)
     exact .inl (by show off+k*(pat f).length+j<off+n*(pat f).length;omega)
  ·obtain ⟨v',w',hr,h2,h3⟩:=run_append_arg_grows (P:=P) w t ty e i z i.size bytes ht hi hz rfl hby hzs hsz ⟨b,off,none⟩ n c (zG n (pat f)) (by rw [su,hp]) (fun j u hj=>by
    obtain ⟨k,i',rfl,hk,hx⟩:=V8 hp0 hj
    rw [Addr.add_mid,←Nat.add_assoc]
    exact hm k (by omega) hk i' u hx) a 1 1 (pat f) (by omega) hnews (by omega) (by omega) (by have:=Nat.mul_le_mul_right bytes (show n+1≤N+1 by omega);omega)
   rw [←hp] at h2
   obtain ⟨own',s1,s2,g,c,s3⟩:=Q3 (n:=n) (N:=N+1) hp0 hd h3 h2 (by omega)
   exact ⟨v',w',own',hr,s1,s2,g,0,n,c,s3⟩
end
section
variable {F:Type} {pat:F→List Value} {own:wQ F} {P:Program}
theorem xL (w:World) {ops:Array Oper} {rest:List Oper} {o:Oper} {a:Act} {Q:Exit→Act→World→Prop} (hgd:o.guard=none) (s x:Operand) (t:TypeId)
 (ho:o.op= .call {callee:= .builtin .append,args:=#[s,x],argTypes:=#[t,t]}) (e:TypeId) (i:TypeInfo) (z:Value) (size bytes:Nat) (ht:P.underlying t=some (.slice e)) (hi:P.info? e=some i) (hz:i.zero=some z)
 (hsize:i.size=size) (hby:i.bytes=bytes) (hzs:z.cells.size=size) (hsz:0<size) (f:F) (hp:(pat f).length=size) (h1:∀ u∈pat f,u.oneCell'=true)
 (hd:∀ b x,own b=some x→b<w.heap.size) (N:Nat) (v:Value) (hs:a.eval s=v) (hv:vS pat own w f N N v) (hN:N+1≤maxLen) (hNb:(N+1)*bytes≤140737488355328)
 (ad:Addr) (hx:a.eval x= .slice (some ad) 1 1) (hnews:∀ j u,(pat f)[j]? =some u→w.cell? (ad.add j)=some u)
 (h:∀ v' w' own',fJ pat own w own' w' none→vS pat own' w' f (N+1) (N+1) v'→(∃ g off n c,v'= .slice (some ⟨g,off,none⟩) (n+1) c)→wpList P ops Q rest (a.put o.dst v') w'):
 wpList P ops Q (o::rest) a w:=by
 refine wpList_plain hgd fun K hK=>?_
 obtain ⟨v',w',own',hr,h2,h3,h4⟩:=Cr (P:=P) w t o.type e i z size bytes ht hi hz hsize hby hzs hsz f hp h1 hd hv hN hNb ad hnews
 unfold Oper.wp execOp
 simp only [ho,resolve,invoke,builtin,Sem.run_bind,Sem.run_pure,Result.andThen_ok,List.map_toArray,List.map_cons,List.map_nil,hs,hx,hr]
 exact hK _ _ (h v' w' own' h2 h3 h4)
def BH (B:Nat) (own:wQ F) (w:World) (v:Value) (xs:List Value):Prop:=
 ∃ p c,v= .slice p xs.length c∧∀ t x,xs[t]? =some x→∃ kb,p=some ⟨kb,0,none⟩∧kb<B∧own kb=none∧w.cell? ⟨kb,t,none⟩=some x
theorem BH.step {B:Nat} {own own':wQ F} {w w':World} {row:Option Nat} {v:Value} {xs:List Value} (h:BH B own w v xs) (k:fJ pat own w own' w' row) (hB:B≤w.heap.size) (hr:∀ r,row=some r→B≤r):BH B own' w' v xs:=by
 obtain ⟨p,c,h1,h2⟩:=h
 refine ⟨p,c,h1,fun t x hx=>?_⟩
 obtain ⟨kb,e,hlt,ho,hc⟩:=h2 t x hx
 have hl:kb<w.heap.size:=by omega
 exact ⟨kb,e,hlt,(k.old kb hl).trans ho,(World.cell?_of_block (a:=⟨kb,t,none⟩) (k.kept kb hl ho (fun e=>by have:=hr kb e.symm;omega))).trans hc⟩
theorem BH.raise {B B':Nat} {own:wQ F} {w:World} {v:Value} {xs:List Value} (h:BH B own w v xs) (hB:B≤B'):BH B' own w v xs:=by
 obtain ⟨p,c,h1,h2⟩:=h
 refine ⟨p,c,h1,fun t x hx=>?_⟩
 obtain ⟨kb,e,hlt,ho,hc⟩:=h2 t x hx
 exact ⟨kb,e,by omega,ho,hc⟩
theorem BH.Ii {B:Nat} {own:wQ F} {w:World} {e:TypeId} {v:Value} {xs:List Value} (h:w.ownsRow B e 1 v xs.length xs) (hn:∀ b,v.ownBlock=some b→own b=none):BH w.heap.size own w v xs:=by
 rcases h.2 with ⟨rfl,h0⟩|⟨g,cap,cur,rfl,_,hg,_,_,_,htk⟩
 ·exact ⟨none,0,by rw [h0],fun t x hx=>by rw [List.eq_nil_of_length_eq_zero h0] at hx;simp at hx⟩
 ·refine ⟨_,cap,rfl,fun t x hx=>⟨g,rfl,(Array.getElem?_eq_some_iff.1 hg).1,hn g rfl,?_⟩⟩
  exact (World.ownsRow.cellAt h t (by have:=(List.getElem?_eq_some_iff.1 hx).1;omega)).trans hx
theorem fJ.V9 {own own' V7:wQ F} {w w' w'':World} {row:Option Nat} (h:fJ pat own w own' w' none) (k:fJ pat own' w' V7 w'' row) (hr:∀ r,row=some r→w.heap.size≤r):fJ pat own w V7 w'' none:=
 ⟨k.os.trans h.os,k.tape.trans h.tape,k.output.trans h.output,Nat.le_trans h.size k.size,fun b hb=>(k.old b (Nat.lt_of_lt_of_le hb h.size)).trans (h.old b hb),k.dom,
   fun b hb h0 _=>(k.kept b (Nat.lt_of_lt_of_le hb h.size) ((h.old b hb).trans h0) (fun e=>by have:=hr b e.symm;omega)).trans (h.kept b hb h0 (by simp)),fun f m N v hv=>k.ZN f m N v (h.ZN f m N v hv)⟩
theorem vS.full {w:World} {f:F} {m m' N:Nat} {p:Option Addr} {n c:Nat} (h:vS pat own w f m N (.slice p n c)) (hm:n≤m):vS pat own w f m' N (.slice p n c):=by
 rcases h with h|⟨b,off,n',c',h1,h2,h3,h4,h5,h6⟩
 ·exact .inl h
 ·cases h1
  exact .inr ⟨b,off,n,c,rfl,h2,h3,h4,h5,fun k _ hn=>h6 k (by omega) hn⟩
theorem vS.to {w:World} {f:F} {m N N':Nat} {v:Value} (h:vS pat own w f m N v) (hm:N≤m) (hN:N≤N') (m':Nat):vS pat own w f m' N' v:=by
 rcases h with h|⟨b,off,n',c',h1,h2,h3,h4,h5,h6⟩
 ·exact .inl h
 ·exact .inr ⟨b,off,n',c',h1,h2,h3,by omega,h5,fun k _ hn=>h6 k (by omega) hn⟩
theorem vS.shape {w:World} {f:F} {m N:Nat} {v:Value} (h:vS pat own w f m N v):∃ p n c,v= .slice p n c∧n≤N∧(0<n→∃ b off,p=some ⟨b,off,none⟩∧own b=some (f,off)∧n≤c∧w.there b off (c*(pat f).length)∧∀ k,k<m→k<n→∀ j x,(pat f)[j]? =some x→w.cell? ⟨b,off+k*(pat f).length+j,none⟩=some x):=by
 rcases h with h|⟨b,off,n',c',h1,h2,h3,h4,h5,h6⟩
 ·exact ⟨none,0,0,h,Nat.zero_le _,fun h=>by omega⟩
 ·exact ⟨_,n',c',h1,h4,fun _=>⟨b,off,rfl,h2,h3,h5,h6⟩⟩
end
theorem ack {F:Type} (pat:F→List Value) (w:World) (L:F→Option Value) (ha:∀ f g v u b,L f=some v→L g=some u→v.ownBlock=some b→u.ownBlock=some b→f=g)
 (hr:∀ f v,L f=some v→v= .slice none 0 0∨∃ b off n c,v= .slice (some ⟨b,off,none⟩) n c∧b<w.heap.size∧n≤c∧w.there b off (c*(pat f).length)):
 ∃ own:wQ F,(∀ b x,own b=some x→b<w.heap.size∧∃ v,L x.1=some v∧v.ownBlock=some b)∧∀ f v N,L f=some v→(∀ p n c,v= .slice p n c→n≤N)→vS pat own w f 0 N v:=by
 classical
 let own:wQ F:=fun b=>if h:∃ x:F×Nat,∃ n c,L x.1=some (.slice (some ⟨b,x.2,none⟩) n c) then some (Classical.choose h) else none
 have hown:∀ f b off n c,L f=some (.slice (some ⟨b,off,none⟩) n c)→own b=some (f,off):=by
  intro f b off n c hL
  have hex:∃ x:F×Nat,∃ n c,L x.1=some (.slice (some ⟨b,x.2,none⟩) n c):=⟨(f,off),n,c,hL⟩
  show (if h:_ then _ else _)=_
  rw [dif_pos hex]
  obtain ⟨n',c',h'⟩:=Classical.choose_spec hex
  have e:(Classical.choose hex).1=f:=ha _ _ _ _ b h' hL rfl rfl
  rw [e,hL] at h'
  simp only [Option.some.injEq,Value.slice.injEq,Addr.mk.injEq,true_and,and_true] at h'
  exact congrArg some (Prod.ext e h'.1.symm)
 refine ⟨own,fun b x hx=>?_,fun f v N hL hN=>?_⟩
 ·have hx':(if h:∃ x:F×Nat,∃ n c,L x.1=some (.slice (some ⟨b,x.2,none⟩) n c) then some (Classical.choose h) else none)=some x:=hx
  by_cases hex:∃ x:F×Nat,∃ n c,L x.1=some (.slice (some ⟨b,x.2,none⟩) n c)
  ·rw [dif_pos hex] at hx'
   obtain ⟨n',c',h'⟩:=Classical.choose_spec hex
   rw [Option.some.inj hx'] at h'
   refine ⟨?_,_,h',rfl⟩
   rcases hr _ _ h' with h|⟨b',off,n,c,h,hb,_⟩
   ·cases h
   ·cases h;exact hb
  ·rw [dif_neg hex] at hx';cases hx'
 ·rcases hr f v hL with h|⟨b,off,n,c,rfl,hb,hnc,hth⟩
  ·exact .inl h
  ·exact .inr ⟨b,off,n,c,rfl,hown f b off n c hL,hnc,hN _ _ _ rfl,hth,fun k hk=>by omega⟩
def OL (w:World):Nat→Value→List VT→List Value→Prop
 |0,_,_,_=>False
 |n+1,v,ts,vs=>(ts=[]∧v= .slice none 0 0∧vs=[v])∨
   ∃ g c gy,v= .slice (some ⟨g,0,none⟩) ts.length c∧g<w.heap.size∧ts.length≤c∧ts.length≤maxLen∧w.there g 0 (c*5)∧gy.length=ts.length∧vs=List.flatten gy++[v]∧
     ∀ (i:Nat) (t:VT) (us:List Value),ts[i]? =some t→gy[i]? =some us→t.bD∧∃ lv,pO w g (i*5) t lv∧OL w n lv t.list us
def ku (lo hi:Nat) (vs:List Value):Prop:=∀ v∈vs,∀ b,v.ownBlock=some b→lo≤b∧b<hi
def aM (vs:List Value):Prop:=vs.Pairwise fun a b=>∀ x,a.ownBlock=some x→b.ownBlock≠some x
section
variable {w w':World} {n:Nat} {v:Value} {ts:List VT} {vs us:List Value} {lo hi lo' hi':Nat}
theorem pO.heap {b o:Nat} {t:VT} {lv:Value} (h:pO w b o t lv) (he:w'.heap[b]? =w.heap[b]?):pO w' b o t lv:=
 have k:∀ o,w'.cell? ⟨b,o,none⟩=w.cell? ⟨b,o,none⟩:=fun o=>World.cell?_of_block (a:=⟨b,o,none⟩) he
 ⟨(k _).trans h.kind,(k _).trans h.num,(k _).trans h.text,(k _).trans h.list,(k _).trans h.elem⟩
theorem OL.last (h:OL w n v ts vs):v∈vs:=by
 cases n with
 |zero=>exact h.elim
 |succ n=>
  rcases h with ⟨_,_,rfl⟩|⟨g,c,gy,_,_,_,_,_,_,rfl,_⟩<;>simp
theorem OL.heap (hz:w.heap.size≤w'.heap.size):∀ {n:Nat} {v:Value} {ts:List VT} {vs:List Value},OL w n v ts vs→(∀ u∈vs,∀ b,u.ownBlock=some b→w'.heap[b]? =w.heap[b]?)→OL w' n v ts vs
 |0,_,_,_,h,_=>h
 |n+1,v,ts,vs,h,he=>by
  have hl:=OL.last h
  rcases h with h|⟨g,c,gy,rfl,h2,h3,h4,h5,h6,rfl,h8⟩
  ·exact .inl h
  ·have hg:w'.heap[g]? =w.heap[g]? :=he _ hl g rfl
   refine .inr ⟨g,c,gy,rfl,Nat.lt_of_lt_of_le h2 hz,h3,h4,dQ h5 hg,h6,rfl,fun i t us ht hu=>?_⟩
   obtain ⟨hf,lv,ha,ho⟩:=h8 i t us ht hu
   exact ⟨hf,lv,ha.heap hg,OL.heap hz ho fun u hm b hb=>he u (List.mem_append_left _ (List.mem_flatten.2 ⟨us,List.mem_of_getElem? hu,hm⟩)) b hb⟩
theorem OL.lt:∀ {n:Nat} {v:Value} {ts:List VT} {vs:List Value},OL w n v ts vs→∀ u∈vs,∀ b,u.ownBlock=some b→b<w.heap.size
 |0,_,_,_,h,_,_,_,_=>h.elim
 |n+1,v,ts,vs,h,u,hu,b,hb=>by
  rcases h with ⟨_,rfl,rfl⟩|⟨g,c,gy,rfl,h2,h3,h4,h5,h6,rfl,h8⟩
  ·rw [List.mem_singleton.1 hu] at hb;simp [Value.ownBlock] at hb
  ·rcases List.mem_append.1 hu with hu|hu
   ·obtain ⟨us,hus,hm⟩:=List.mem_flatten.1 hu
    obtain ⟨i,hi⟩:=List.getElem?_of_mem hus
    obtain ⟨t,ht⟩:∃ t,ts[i]? =some t:=⟨_,List.getElem?_eq_getElem (by rw [←h6];exact (List.getElem?_eq_some_iff.1 hi).1)⟩
    obtain ⟨_,lv,_,ho⟩:=h8 i t us ht hi
    exact OL.lt ho u hm b hb
   ·rw [List.mem_singleton.1 hu] at hb
    simp [Value.ownBlock] at hb
    omega
theorem OL.below (h:OL w n v ts vs) (hb:Below w.heap.size w w'):OL w' n v ts vs:=h.heap hb.size fun u hu b hb'=>hb.block b (h.lt u hu b hb')
theorem OL.vX:∀ {n:Nat} {v:Value} {ts:List VT} {vs:List Value},OL w n v ts vs→bR w.heap.size w n v ts
 |0,_,_,_,h=>h
 |n+1,v,ts,vs,h=>by
  rcases h with ⟨h1,h2,_⟩|⟨g,c,gy,rfl,h2,h3,h4,h5,h6,rfl,h8⟩
  ·exact .inl ⟨h1,none,0,h2⟩
  ·refine .inr ⟨g,0,c,rfl,h2,h4,fun i t ht=>?_⟩
   obtain ⟨us,hu⟩:∃ us,gy[i]? =some us:=⟨_,List.getElem?_eq_getElem (by rw [h6];exact (List.getElem?_eq_some_iff.1 ht).1)⟩
   obtain ⟨hf,lv,ha,ho⟩:=h8 i t us ht hu
   exact ⟨hf,lv,by rw [Nat.zero_add];exact ha,OL.vX ho⟩
theorem OL.mono:∀ {n m:Nat} {v:Value} {ts:List VT} {vs:List Value},n≤m→OL w n v ts vs→OL w m v ts vs
 |0,_,_,_,_,_,h=>h.elim
 |n+1,0,_,_,_,hn,_=>by omega
 |n+1,m+1,v,ts,vs,hn,h=>by
  rcases h with h|⟨g,c,gy,rfl,h2,h3,h4,h5,h6,rfl,h8⟩
  ·exact .inl h
  ·refine .inr ⟨g,c,gy,rfl,h2,h3,h4,h5,h6,rfl,fun i t us ht hu=>?_⟩
   obtain ⟨hf,lv,ha,ho⟩:=h8 i t us ht hu
   exact ⟨hf,lv,ha,OL.mono (by omega) ho⟩
theorem OL.slice (h:OL w n v ts vs):∃ p c,v= .slice p ts.length c:=by
 cases n with
 |zero=>exact h.elim
 |succ n=>
  rcases h with ⟨rfl,rfl,_⟩|⟨g,c,gy,rfl,_⟩
  ·exact ⟨none,0,rfl⟩
  ·exact ⟨_,c,rfl⟩
theorem OL.nil (w:World) (n:Nat):OL w (n+1) (.slice none 0 0) [] [.slice none 0 0]:= .inl ⟨rfl,rfl,rfl⟩
theorem OL.rows:∀ {n:Nat} {v:Value} {ts:List VT} {vs:List Value},OL w n v ts vs→∀ u∈vs,u= .slice none 0 0∨∃ g k c,u= .slice (some ⟨g,0,none⟩) k c∧g<w.heap.size∧k≤c∧w.there g 0 (c*5)
 |0,_,_,_,h,_,_=>h.elim
 |n+1,v,ts,vs,h,u,hu=>by
  rcases h with ⟨_,rfl,rfl⟩|⟨g,c,gy,rfl,h2,h3,h4,h5,h6,rfl,h8⟩
  ·exact .inl (List.mem_singleton.1 hu)
  ·rcases List.mem_append.1 hu with hu|hu
   ·obtain ⟨us,hus,hm⟩:=List.mem_flatten.1 hu
    obtain ⟨i,hi⟩:=List.getElem?_of_mem hus
    obtain ⟨t,ht⟩:∃ t,ts[i]? =some t:=⟨_,List.getElem?_eq_getElem (by rw [←h6];exact (List.getElem?_eq_some_iff.1 hi).1)⟩
    obtain ⟨_,lv,_,ho⟩:=h8 i t us ht hi
    exact OL.rows ho u hm
   ·exact .inr ⟨g,_,c,List.mem_singleton.1 hu,h2,h3,h5⟩
theorem ku.mono (h:ku lo hi vs) (h1:lo'≤lo) (h2:hi≤hi'):ku lo' hi' vs:=fun v hv b hb=>by have:=h v hv b hb;omega
theorem ku.append (h:ku lo hi vs) (k:ku lo hi us):ku lo hi (vs++us):=fun v hv b hb=>(List.mem_append.1 hv).elim (fun hv=>h v hv b hb) (fun hv=>k v hv b hb)
theorem aM.append (h:aM vs) (k:aM us) {m:Nat} (hv:ku lo m vs) (hu:ku m hi us):aM (vs++us):=by
 refine List.pairwise_append.2 ⟨h,k,fun a ha b hb x hx hx'=>?_⟩
 have:=hv a ha x hx
 have:=hu b hb x hx'
 omega
theorem aM.append' (h:aM vs) (k:aM us) {lo2 hi2:Nat} (hv:ku lo hi vs) (hu:ku lo2 hi2 us) (hd:hi≤lo2∨hi2≤lo):aM (vs++us):=by
 refine List.pairwise_append.2 ⟨h,k,fun a ha b hb x hx hx'=>?_⟩
 have:=hv a ha x hx
 have:=hu b hb x hx'
 omega
theorem aM.snoc (h:aM vs) (hn:∀ u∈vs,∀ b,u.ownBlock=some b→v.ownBlock≠some b):aM (vs++[v]):=
 List.pairwise_append.2 ⟨h,List.pairwise_singleton _ _,fun a ha b hb x hx=>by rw [List.mem_singleton.1 hb];exact hn a ha x hx⟩
theorem aM.nil:aM []:=List.Pairwise.nil
theorem aM.one (v:Value):aM [v]:=List.pairwise_singleton _ _
theorem ku.nil (lo hi:Nat):ku lo hi []:=fun v hv=>by cases hv
theorem ku.none (lo hi:Nat):ku lo hi [.slice .none 0 0]:=fun v hv b hb=>by rw [List.mem_singleton.1 hv] at hb;simp [Value.ownBlock] at hb
end
def bE (xs:List (VT×Value)):List Value:=xs.flatMap fun x=>x.1.cells x.2
theorem gQ (t:VT) (lv:Value):(t.cells lv).length=5:=rfl
theorem vY (xs:List (VT×Value)):(bE xs).length=xs.length*5:=by
 induction xs with
 |nil=>rfl
 |cons x r ih=>
  show (x.1.cells x.2++bE r).length=_
  rw [List.length_append,ih,gQ,List.length_cons];omega
theorem mZ:∀ {xs:List (VT×Value)} {i:Nat} {x:VT×Value},xs[i]? =some x→∀ j,j<5→(bE xs)[i*5+j]? =(x.1.cells x.2)[j]?
 |[],i,x,h,_,_=>by simp at h
 |y::r,0,x,h,j,hj=>by
  simp at h;subst h
  show ((y.1.cells y.2)++bE r)[_]? =_
  rw [Nat.zero_mul,Nat.zero_add,List.getElem?_append_left (by rw [gQ];exact hj)]
 |y::r,i+1,x,h,j,hj=>by
  show ((y.1.cells y.2)++bE r)[_]? =_
  rw [List.getElem?_append_right (by rw [gQ];omega),gQ,show (i+1)*5+j-5=i*5+j by omega]
  exact mZ (by simpa using h) j hj
theorem Cs {xs:List (VT×Value)} {j:Nat} {u:Value} (h:(bE xs)[j]? =some u):∃ i k x,j=i*5+k∧k<5∧xs[i]? =some x∧(x.1.cells x.2)[k]? =some u:=by
 have hj:=(List.getElem?_eq_some_iff.1 h).1
 rw [vY] at hj
 have hi:j/5<xs.length:=by omega
 obtain ⟨x,hx⟩:∃ x,xs[j/5]? =some x:=⟨_,List.getElem?_eq_getElem hi⟩
 refine ⟨j/5,j%5,x,by omega,by omega,hx,?_⟩
 rw [←mZ hx (j%5) (by omega),show j/5*5+j%5=j by omega];exact h
theorem N9 {xs:List (VT×Value)} (hs:∀ x∈xs,∃ p n c,x.2= .slice p n c):∀ u∈bE xs,u.oneCell'=true:=by
 intro u hu
 obtain ⟨j,hj⟩:=List.getElem?_of_mem hu
 obtain ⟨i,k,x,_,hk,hx,hc⟩:=Cs hj
 obtain ⟨p,n,c,e⟩:=hs x (List.mem_of_getElem? hx)
 match k,hk,hc with
 |0,_,hc=>cases hc;rfl
 |1,_,hc=>cases hc;rfl
 |2,_,hc=>cases hc;rfl
 |3,_,hc=>cases hc;rw [e];rfl
 |4,_,hc=>cases hc;rfl
theorem bR.open {B:Nat} {w:World} {n:Nat} {v:Value} {ts:List VT} (h:bR B w (n+1) v ts):
 ∃ (xs:List (VT×Value)) (p:Option Addr) (c:Nat),xs.map (·.1)=ts∧v= .slice p xs.length c∧∀ (i:Nat) (x:VT×Value),xs[i]? =some x→x.1.bD∧bR B w n x.2 x.1.list∧∃ b off,p=some ⟨b,off,none⟩∧b<B∧pO w b (off+i*5) x.1 x.2:=by
 rcases h with ⟨rfl,p,c,rfl⟩|⟨b,off,c,rfl,hb,_,hel⟩
 ·exact ⟨[],p,c,rfl,rfl,fun i x h=>by simp at h⟩
 ·have:∀ m,m≤ts.length→∃ xs:List (VT×Value),xs.map (·.1)=ts.take m∧∀ (i:Nat) (x:VT×Value),xs[i]? =some x→x.1.bD∧bR B w n x.2 x.1.list∧pO w b (off+i*5) x.1 x.2:=by
   intro m
   induction m with
   |zero=>exact fun _=>⟨[],by simp,fun i x h=>by simp at h⟩
   |succ m ih=>
    intro hm
    obtain ⟨xs,h1,h2⟩:=ih (by omega)
    have hlen:xs.length=m:=by have:=congrArg List.length h1;simp at this;omega
    obtain ⟨t,ht⟩:∃ t,ts[m]? =some t:=⟨_,List.getElem?_eq_getElem (by omega)⟩
    obtain ⟨hf,lv,ha,hl⟩:=hel m t ht
    refine ⟨xs++[(t,lv)],by rw [List.map_append,h1,List.take_add_one,ht];rfl,fun i x hx=>?_⟩
    rcases Nat.lt_or_ge i xs.length with hlt|hge
    ·rw [List.getElem?_append_left hlt] at hx;exact h2 i x hx
    ·rw [List.getElem?_append_right hge] at hx
     have e0:i-xs.length=0:=by have:=(List.getElem?_eq_some_iff.1 hx).1;simp at this;omega
     rw [e0] at hx
     simp at hx
     subst hx
     have:i=m:=by omega
     subst this
     exact ⟨hf,hl,ha⟩
  obtain ⟨xs,h1,h2⟩:=this ts.length (Nat.le_refl _)
  rw [List.take_length] at h1
  have hlen:ts.length=xs.length:=by rw [←h1,List.length_map]
  exact ⟨xs,_,c,h1,by rw [hlen],fun i x hx=>let ⟨a,b',c'⟩:=h2 i x hx;⟨a,b',b,off,rfl,hb,c'⟩⟩
theorem Cells.of_heap {w:World} {b:Nat} {cs:List Value} {T:TypeId} {fr:Nat×Nat} (h:w.heap[b]? =some (.cells cs.toArray T fr)):Cells w b 0 cs:=fun j u hu=>by
 simp [World.cell?,h,hu]
theorem heap_alloc_new (w:World) (o:Obj):(w.alloc o).heap[w.heap.size]? =some o:=by
 show (w.heap.push o)[w.heap.size]? =some o
 simp
theorem aO (w:World) (o:Obj):(w.alloc o).heap.size=w.heap.size+1:=Array.size_push ..
theorem Ct {w W:World} {o o':Obj} (h:(w.alloc o).alloc o'=W):W.heap[w.heap.size]? =some o∧W.heap[w.heap.size+1]? =some o'∧W.heap.size=w.heap.size+2∧Below w.heap.size w W:=by
 subst h
 refine ⟨(Below.heap_alloc _ _ _ (by rw [aO];omega)).trans (heap_alloc_new _ _),?_,by rw [aO,aO],((Below.refl _ _).alloc (Nat.le_refl _) _).alloc (by rw [aO];omega) _⟩
 rw [←aO w o]
 exact heap_alloc_new _ _
theorem kP {w W:World} {o:Obj} (h:w.alloc o=W):W.heap[w.heap.size]? =some o∧W.heap.size=w.heap.size+1∧Below w.heap.size w W:=by
 subst h
 exact ⟨heap_alloc_new _ _,aO _ _,(Below.refl _ _).alloc (Nat.le_refl _) _⟩
theorem setCells_size (_w:World) (b:Nat):∀ (vs:List Value) (o:Nat) (w:World),(w.setCells b o vs).heap.size=w.heap.size
 |[],_,_=>rfl
 |v::r,o,w=>by rw [World.setCells,setCells_size w b r];simp [World.setCell]
theorem eP {lo hi b:Nat} (h1:lo≤b) (h2:b<hi) {a:World}:∀ (vs:List Value) (o:Nat) (w:World),Apart lo hi a w→Apart lo hi a (w.setCells b o vs)
 |[],_,_,h=>h
 |v::r,o,w,h=>by rw [World.setCells];exact eP h1 h2 r (o+1) _ (h.setCell (p:=⟨b,o,none⟩) h1 h2 v)
theorem sw {B b:Nat} (h1:B≤b) {a:World}:∀ (vs:List Value) (o:Nat) (w:World),Below B a w→Below B a (w.setCells b o vs)
 |[],_,_,h=>h
 |v::r,o,w,h=>by rw [World.setCells];exact sw h1 r (o+1) _ (h.setCell (p:=⟨b,o,none⟩) h1 v)
theorem Has.setCells {w:World} {b m o:Nat} {vs:List Value} (h:Has w b m) (ho:o+vs.length≤m):Has (w.setCells b o vs) b m:=fun j hj=>by
 by_cases hx:j<o∨o+vs.length≤j
 ·rw [World.cell?_setCells_out b vs o w ⟨b,j,none⟩ (fun _ _=>hx)]
  exact h j hj
 ·have:=World.cell?_setCells_in b vs o w (fun k hk=>by obtain ⟨v,hv⟩:=h (o+k) (by omega);rw [hv];rfl) (j-o) (by omega)
  rw [show o+(j-o)=j by omega] at this
  exact ⟨_,this⟩
theorem Has.aec {w:World} {b m o:Nat} {vs:List Value} (h:Has w b m) (ho:o+vs.length≤m):Cells (w.setCells b o vs) b o vs:=fun j u hu=>by
 have hj:=(List.getElem?_eq_some_iff.1 hu).1
 have:=World.cell?_setCells_in b vs o w (fun k hk=>by obtain ⟨v,hv⟩:=h (o+k) (by omega);rw [hv];rfl) j hj
 rw [this,←(List.getElem?_eq_some_iff.1 hu).2]
theorem Has.there {w:World} {b m o n:Nat} (h:Has w b m) (hf:∀ j,w.frozen? ⟨b,j,none⟩=false) (ho:o+n≤m):w.there b o n:=fun j hj=>by
 obtain ⟨v,hv⟩:=h (o+j) (by omega)
 exact ⟨by rw [hv];rfl,hf _⟩
def eF (w:World) (b:Nat) (cs:List Value):Prop:=Cells w b 0 cs∧w.there b 0 cs.length
section
variable {w w':World} {b:Nat} {cs vs:List Value}
theorem eF.new (w:World) (cs:List Value) (T:TypeId):eF (w.alloc (.cells cs.toArray T)) w.heap.size cs:=by
 have h:(w.alloc (.cells cs.toArray T)).heap[w.heap.size]? =some (.cells cs.toArray T (0,0)):=heap_alloc_new _ _
 refine ⟨Cells.of_heap h,fun j hj=>⟨?_,by unfold World.frozen?;rw [h];simp⟩⟩
 rw [Nat.zero_add]
 unfold World.cell?
 rw [h]
 simpa using hj
theorem eF.heap (h:eF w b cs) (he:w'.heap[b]? =w.heap[b]?):eF w' b cs:=
 ⟨fun j u hu=>(World.cell?_of_block (a:=⟨b,_,none⟩) he).trans (h.1 j u hu),dQ h.2 he⟩
theorem eF.below {B:Nat} (h:eF w b cs) (hb:Below B w w') (hlt:b<B):eF w' b cs:=h.heap (hb.block b hlt)
theorem eF.cell (h:eF w b cs) {j:Nat} {u:Value} (hu:cs[j]? =some u):w.cell? ⟨b,j,none⟩=some u:=by
 have:=h.1 j u hu
 rwa [Nat.zero_add] at this
theorem eF.o9 (h:eF w b cs) {j:Nat} (hj:j<cs.length):w.frozen? ⟨b,j,none⟩=false:=by
 have:=(h.2 j hj).2
 rwa [Nat.zero_add] at this
theorem eF.part (h:eF w b cs) {o n:Nat} (hn:o+n≤cs.length):w.there b o n:=fun j hj=>by
 have:=h.2 (o+j) (by omega)
 rwa [Nat.zero_add] at this
theorem eF.set (h:eF w b cs) {o:Nat} (ho:o+vs.length≤cs.length) {cs':List Value} (hl:cs'.length=cs.length) (h1:∀ j u,vs[j]? =some u→cs'[o+j]? =some u) (h2:∀ j,j<o∨o+vs.length≤j→cs'[j]? =cs[j]?):eF (w.setCells b o vs) b cs':=by
 refine ⟨fun j u hu=>?_,by rw [hl];exact World.there_setCells h.2 _ _ _⟩
 rw [Nat.zero_add]
 by_cases hj:j<o∨o+vs.length≤j
 ·rw [World.cell?_setCells_out _ _ _ _ _ (fun _ _=>hj)]
  exact h.cell ((h2 j hj).symm.trans hu)
 ·obtain ⟨v,hv⟩:∃ v,vs[j-o]? =some v:=⟨_,List.getElem?_eq_getElem (by omega)⟩
  have e:=h1 (j-o) v hv
  rw [show o+(j-o)=j by omega] at e
  rw [e] at hu
  cases hu
  have:=jZ (h.part ho) hv
  rwa [show o+(j-o)=j by omega] at this
theorem eF.all (h:eF w b cs) (hl:vs.length=cs.length):eF (w.setCells b 0 vs) b vs:=
 h.set (by omega) hl (fun j u hu=>by rw [Nat.zero_add];exact hu) (fun j hj=>by
  have hj:cs.length≤j:=by omega
  rw [List.getElem?_eq_none (by omega),List.getElem?_eq_none hj])
theorem au {B:Nat} (hb:B≤b) (o:Nat) (vs:List Value):Below B w (w.setCells b o vs):=by
 have hg:=gz b vs o w
 exact ⟨hg.os,hg.tape,hg.output,hg.size,fun k hk=>by
  rcases Nat.lt_or_ge k w.heap.size with h|h
  ·exact hg.block k h (fun e=>by cases e;omega)
  ·have hz:(w.setCells b o vs).heap.size=w.heap.size:=setCells_size w b vs o w
   rw [Array.getElem?_eq_none (by omega),Array.getElem?_eq_none (by omega)]⟩
theorem aA {k:Nat} (hk:k≠b) (o:Nat) (vs:List Value):(w.setCells b o vs).heap[k]? =w.heap[k]? :=by
 rcases Nat.lt_or_ge k w.heap.size with h|h
 ·exact (gz b vs o w).block k h (fun e=>hk (by cases e;rfl))
 ·have hz:(w.setCells b o vs).heap.size=w.heap.size:=setCells_size w b vs o w
  rw [Array.getElem?_eq_none (by omega),Array.getElem?_eq_none (by omega)]
theorem aC (w:World) (b o:Nat) (vs:List Value):(w.setCells b o vs).heap.size=w.heap.size:=setCells_size w b vs o w
end
theorem dR {P:Program} {fn:Func} {p:Tmp} {ty:TypeId} {tmps:Array Value} {w:World} {g:Nat} {v:Value} (h:fn.results= #[.cell p ty]) (hp:tmps.getD p undef= .pointer (some ⟨g,0,none⟩)) (hld:(loadVar ty ⟨g,0,none⟩).run P w= .ok v w):
 (results fn tmps).run P w= .ok v w:=by
 have hp':tmps[p]?.getD undef= .pointer (some ⟨g,0,none⟩):=by simpa using hp
 simp [results,h,hp',asAddr,hld]
structure Cu (g c:Nat) (xs:List (VT×Value)) (N:Nat) (W:World) (j:Nat) (w:World):Prop where
 below:Below g W w
 ZO:g<w.heap.size
 there:w.there g 0 (c*5)
 done:∃ gy:List (List Value),gy.length=j∧ku (g+1) w.heap.size gy.flatten∧aM gy.flatten∧∀ (i:Nat) (x:VT×Value) (us:List Value),xs[i]? =some x→gy[i]? =some us→∃ lv,pO w g (i*5) x.1 lv∧OL w N lv x.1.list us
 rest:∀ (i:Nat) (x:VT×Value),j≤i→xs[i]? =some x→pO w g (i*5) x.1 x.2
theorem rG {w:World} {b o:Nat} {t:VT} {lv:Value} (ht:w.there b o 5):pO (w.setCells b o (t.cells lv)) b o t lv:=by
 have k:∀ j u,(t.cells lv)[j]? =some u→(w.setCells b o (t.cells lv)).cell? ⟨b,o+j,none⟩=some u:=fun j u hu=>jZ (vs:=t.cells lv) ht hu
 exact ⟨k 0 _ rfl,k 1 _ rfl,k 2 _ rfl,k 3 _ rfl,k 4 _ rfl⟩
theorem Ij {w:World} {b o o':Nat} {t:VT} {lv:Value} {vs:List Value} (h:pO w b o t lv) (ho:o+5≤o'∨o'+vs.length≤o):pO (w.setCells b o' vs) b o t lv:=by
 have k:∀ j,j<5→(w.setCells b o' vs).cell? ⟨b,o+j,none⟩=w.cell? ⟨b,o+j,none⟩:=fun j hj=>World.cell?_setCells_out _ _ _ _ _ (fun _ _=>by
  rcases ho with ho|ho
  ·exact .inl (by show o+j<o';omega)
  ·exact .inr (by show o'+vs.length≤o+j;omega))
 exact ⟨(k 0 (by omega)).trans h.kind,(k 1 (by omega)).trans h.num,(k 2 (by omega)).trans h.text,(k 3 (by omega)).trans h.list,(k 4 (by omega)).trans h.elem⟩
theorem Cu.step {g c:Nat} {xs:List (VT×Value)} {N:Nat} {W w w2:World} {j:Nat} (h:Cu g c xs N W j w) {x:VT×Value} (hx:xs[j]? =some x) (hjc:j<c) {lv:Value} {us:List Value} (hb:Below w.heap.size w w2) (ho:OL w2 N lv x.1.list us) (hbk:ku w.heap.size w2.heap.size us) (hap:aM us):
 Cu g c xs N W (j+1) (w2.setCells g (j*5) (x.1.cells lv)):=by
 obtain ⟨gy,h1,h2,h3,h4⟩:=h.done
 have hth:w2.there g 0 (c*5):=dQ h.there (hb.block g h.ZO)
 have hj5:w2.there g (j*5) 5:=fun k hk=>by
  have:=hth (j*5+k) (by omega)
  rwa [Nat.zero_add] at this
 have hz:(w2.setCells g (j*5) (x.1.cells lv)).heap.size=w2.heap.size:=aC ..
 have hgl:=h.ZO
 have hsz:=hb.size
 refine ⟨(h.below.trans (hb.mono (by omega))).trans (au (Nat.le_refl _) _ _),by rw [hz];omega,World.there_setCells hth _ _ _,⟨gy++[us],by simp [h1],?_,?_,fun i y vs hy hv=>?_⟩,fun i y hi hy=>?_⟩
 ·rw [hz,List.flatten_append]
  exact (h2.mono (Nat.le_refl _) hsz).append (by simpa using hbk.mono (by omega) (Nat.le_refl _))
 ·rw [List.flatten_append]
  exact h3.append (by simpa using hap) h2 (by simpa using hbk)
 ·rcases Nat.lt_or_ge i gy.length with hlt|hge
  ·rw [List.getElem?_append_left hlt] at hv
   obtain ⟨gM,ha,ho'⟩:=h4 i y vs hy hv
   refine ⟨gM,Ij (ha.heap (hb.block g hgl)) (.inl (by omega)),(ho'.below hb).heap (by omega) fun u hu b hb'=>aA (fun e=>?_) _ _⟩
   have:=h2 u (List.mem_flatten.2 ⟨vs,List.mem_of_getElem? hv,hu⟩) b hb'
   omega
  ·rw [List.getElem?_append_right hge] at hv
   have e0:i-gy.length=0:=by have:=(List.getElem?_eq_some_iff.1 hv).1;simp at this;omega
   rw [e0] at hv
   simp at hv
   subst hv
   obtain rfl:i=j:=by omega
   rw [hx] at hy
   cases hy
   refine ⟨lv,rG hj5,ho.heap (by omega) fun u hu b hb'=>aA (fun e=>?_) _ _⟩
   have:=hbk u hu b hb'
   omega
 ·exact Ij ((h.rest i y (by omega) hy).heap (hb.block g hgl)) (.inr (by rw [gQ];omega))
theorem Cu.all {g c:Nat} {xs:List (VT×Value)} {N:Nat} {W w:World} (h:Cu g c xs N W xs.length w) (hc:xs.length≤c) (hm:xs.length≤maxLen) (hf:∀ (i:Nat) (x:VT×Value),xs[i]? =some x→x.1.bD):
 ∃ us,OL w (N+1) (.slice (some ⟨g,0,none⟩) xs.length c) (xs.map (·.1)) us∧ku g w.heap.size us∧aM us:=by
 obtain ⟨gy,h1,h2,h3,h4⟩:=h.done
 have hgl:=h.ZO
 have hbl:ku g w.heap.size (gy.flatten++[.slice (some ⟨g,0,none⟩) xs.length c]):=(h2.mono (by omega) (Nat.le_refl _)).append fun v hv b hb=>by
  rw [List.mem_singleton.1 hv] at hb
  simp [Value.ownBlock] at hb
  omega
 refine ⟨gy.flatten++[.slice (some ⟨g,0,none⟩) xs.length c],.inr ⟨g,c,gy,by rw [List.length_map],h.ZO,by rw [List.length_map];exact hc,by rw [List.length_map];exact hm,h.there,by rw [List.length_map,h1],rfl,fun i t us ht hu=>?_⟩,hbl,h3.snoc fun u hu b hb e=>?_⟩
 ·rw [List.getElem?_map] at ht
  obtain ⟨x,hx,rfl⟩:=Option.map_eq_some_iff.1 ht
  obtain ⟨lv,ha,ho⟩:=h4 i x us hx hu
  exact ⟨hf i x hx,lv,ha,ho⟩
 ·have:=h2 u hu b hb
  simp [Value.ownBlock] at e
  omega
theorem Cu.start {g:Nat} {w:World} {xs:List (VT×Value)} {N cap:Nat} {cur:Array Value} {T:TypeId} (hg:w.heap[g]? =some (.cells cur T (0,0))) (_hcap:xs.length≤cap) (hsz:cur.size=cap*5) (htk:cur.toList.take (xs.length*5)=bE xs):Cu g cap xs N w 0 w:=by
 refine ⟨Below.refl _ _,(Array.getElem?_eq_some_iff.1 hg).1,fun j hj=>⟨?_,by unfold World.frozen?;rw [hg];simp⟩,⟨[],rfl,ku.nil _ _,aM.nil,fun i x us _ h=>by simp at h⟩,fun i x _ hx=>?_⟩
 ·rw [Nat.zero_add]
  unfold World.cell?
  rw [hg]
  simp
  omega
 ·have hi:=(List.getElem?_eq_some_iff.1 hx).1
  have k:∀ j u,j<5→(x.1.cells x.2)[j]? =some u→w.cell? ⟨g,i*5+j,none⟩=some u:=fun j u hj hu=>by
   have:=mZ hx j hj
   rw [←htk,List.getElem?_take_of_lt (by omega),Array.getElem?_toList,hu] at this
   unfold World.cell?
   rw [hg]
   simpa using this
  exact ⟨k 0 _ (by omega) rfl,k 1 _ (by omega) rfl,k 2 _ (by omega) rfl,k 3 _ (by omega) rfl,k 4 _ (by omega) rfl⟩
theorem aH {w W1:World} {cs:List Value} {T:TypeId} (h:w.alloc (.cells cs.toArray T)=W1):eF W1 w.heap.size cs∧W1.heap.size=w.heap.size+1∧Below w.heap.size w W1:=by
 subst h
 exact ⟨eF.new w cs T,aO _ _,(Below.refl _ _).alloc (Nat.le_refl _) _⟩
theorem bK {w W1:World} {cs ds:List Value} {T T':TypeId} (h:(w.alloc (.cells cs.toArray T)).alloc (.cells ds.toArray T')=W1):eF W1 w.heap.size cs∧eF W1 (w.heap.size+1) ds∧W1.heap.size=w.heap.size+2∧Below w.heap.size w W1:=by
 subst h
 have hz:(w.alloc (.cells cs.toArray T)).heap.size=w.heap.size+1:=aO _ _
 refine ⟨(eF.new w cs T).heap (Below.heap_alloc _ _ _ (by omega)),by have:=eF.new (w.alloc (.cells cs.toArray T)) ds T';rwa [hz] at this,by rw [aO,hz],((Below.refl _ _).alloc (Nat.le_refl _) _).alloc (by omega) _⟩
theorem pg (w:World) (t:VT) (lv:Value) (T:TypeId):∀ j u,(t.cells lv)[j]? =some u→(w.alloc (.cells #[.int .i64 t.kind,.int .u64 t.num,.string t.text,lv,.int .i64 t.elem] T)).cell? ((⟨w.heap.size,0,none⟩:Addr).add j)=some u:=fun j u hu=>by
 rw [Addr.add_mid,Nat.zero_add,World.cell?_alloc_new]
 simpa [VT.cells] using hu
theorem pq (t:VT) (a:Option Addr) (n c:Nat):∀ u∈t.cells (.slice a n c),u.oneCell'=true:=by
 intro u hu
 simp only [VT.cells,List.mem_cons,List.not_mem_nil,or_false] at hu
 rcases hu with h|h|h|h|h<;>subst h<;>rfl
end Go.Proofs.Nu
namespace Go.Proofs.Nu
def rows:List (Int×List (List UInt8)):=[
 (16,[[111,112,101,110],[98,101,103,105,110],[97,116,116,97,99,104],[102,108,111,119],[116,114,97,110,115,102,101,114],[100,105,115,112,111,115,105,116,105,111,110],[100,101,116,97,99,104],[101,110,100],[99,108,111,115,101]]),
 (29,[[102,97,117,108,116]]),
 (35,[[114,101,99,101,105,118,101,100],[97,99,99,101,112,116,101,100],[114,101,106,101,99,116,101,100],[114,101,108,101,97,115,101,100],[109,111,100,105,102,105,101,100],[115,111,117,114,99,101],[116,97,114,103,101,116]]),
 (48,[[99,111,111,114,100,105,110,97,116,111,114],[100,101,99,108,97,114,101],[100,105,115,99,104,97,114,103,101],[100,101,99,108,97,114,101,100],[116,114,97,110,115,97,99,116,105,111,110,97,108]]),
 (64,[[109,101,99,104,97,110,105,115,109,115],[105,110,105,116],[99,104,97,108,108,101,110,103,101],[114,101,115,112,111,110,115,101],[111,117,116,99,111,109,101]]),
 (112,[[104,101,97,100,101,114],[100,101,108,105,118,101,114,121,45,97,110,110,111,116,97,116,105,111,110,115],[109,101,115,115,97,103,101,45,97,110,110,111,116,97,116,105,111,110,115],[112,114,111,112,101,114,116,105,101,115],[97,112,112,108,105,99,97,116,105,111,110,45,112,114,111,112,101,114,116,105,101,115],[100,97,116,97],[115,101,113,117,101,110,99,101],[118,97,108,117,101],[102,111,111,116,101,114]])]
def ZP:List UInt8:=[108,111,110,103,115,104,111,114,101,58]
def form (k:Int):List UInt8:=
 if k=113∨k=114∨k=116∨k=120 then [109,97,112] else if k=117 then [98,105,110,97,114,121] else if k=119 then [97,110,121] else [108,105,115,116]
def hit (k:Int) (r:Int×List (List UInt8)):Option (List UInt8):=if r.1≤k∧k-r.1<(r.2.length:Int) then r.2[(k-r.1).toNat]? else none
def fe (k:Int):List UInt8:=
 match rows.findSome? (hit k) with
 |some s=>ZP++s++[58]++form k
 |none=>[]
theorem Cv:∀ r∈rows,∀ q∈rows,r=q∨r.1+r.2.length≤q.1∨q.1+q.2.length≤r.1:=by decide
theorem Kk {k:Int} {r:Int×List (List UInt8)} (h1:r.1≤k) (h2:k-r.1<(r.2.length:Int)):∃ s,hit k r=some s∧r.2[(k-r.1).toNat]? =some s:=by
 have hl:(k-r.1).toNat<r.2.length:=by omega
 exact ⟨r.2[(k-r.1).toNat],by unfold hit;rw [if_pos ⟨h1,h2⟩,List.getElem?_eq_getElem hl],List.getElem?_eq_getElem hl⟩
theorem Wd {k:Int} {r:Int×List (List UInt8)} {s:List UInt8} (h:hit k r=some s):r.1≤k∧k-r.1<(r.2.length:Int):=by
 unfold hit at h
 split at h
 ·assumption
 ·cases h
theorem We {k:Int} {r:Int×List (List UInt8)} (hr:r∈rows) (h1:r.1≤k) (h2:k-r.1<(r.2.length:Int)):∃ s,r.2[(k-r.1).toNat]? =some s∧fe k=ZP++s++[58]++form k:=by
 obtain ⟨s,hs,hg⟩:=Kk h1 h2
 refine ⟨s,hg,?_⟩
 have:rows.findSome? (hit k)=some s:=by
  cases hf:rows.findSome? (hit k) with
  |none=>
   have:=List.findSome?_eq_none_iff.1 hf r hr
   rw [hs] at this;cases this
  |some x=>
   obtain ⟨q,hq,hx⟩:=List.exists_of_findSome?_eq_some hf
   have:=Wd hx
   rcases Cv r hr q hq with e|e|e
   ·subst e;rw [hs] at hx;exact hx.symm
   ·omega
   ·omega
 unfold fe
 rw [this]
theorem zH {k:Int} (h:∀ r∈rows,¬(r.1≤k∧k-r.1<(r.2.length:Int))):fe k=[]:=by
 unfold fe
 have:rows.findSome? (hit k)=none:=List.findSome?_eq_none_iff.2 fun r hr=>by unfold hit;rw [if_neg (h r hr)]
 rw [this]
def fC (k:Int):ByteArray:=⟨(fe k).toArray⟩
theorem Kl:∀ r∈rows,∀ s∈r.2,s.length≤30:=by decide
theorem xM (k:Int) (h:(k==113)=true∨(k==114)=true∨(k==116)=true∨(k==120)=true):form k=[109,97,112]:=by
 simp only [beq_iff_eq] at h;unfold form;rw [if_pos h]
theorem Wh (k:Int) (h:(k==117)=true):form k=[98,105,110,97,114,121]:=by
 simp only [beq_iff_eq] at h;subst h;decide
theorem Wi (k:Int) (h:(k==119)=true):form k=[97,110,121]:=by
 simp only [beq_iff_eq] at h;subst h;decide
theorem SE (k:Int) (h1:(k==113)=false) (h2:(k==114)=false) (h3:(k==116)=false) (h4:(k==120)=false) (h5:(k==117)=false) (h6:(k==119)=false):form k=[108,105,115,116]:=by
 simp only [beq_eq_false_iff_ne,ne_eq] at*
 unfold form
 rw [if_neg (by omega),if_neg h5,if_neg h6]
theorem jS {k:Int} {s F:List UInt8} (hn:fe k=ZP++s++[58]++form k) (hF:form k=F):
 (⟨#[108,111,110,103,115,104,111,114,101,58]⟩++⟨s.toArray⟩++⟨#[58]⟩++⟨F.toArray⟩:ByteArray)=fC k:=by
 unfold fC
 rw [hn,hF]
 apply ByteArray.ext
 simp [ZP,ByteArray.data_append]
end Go.Proofs.Nu
namespace Go.Proofs.Nu
open Go Go.RowKit
def fE:ByteArray:=⟨#[]⟩
def vT (d:VT) (k:Int):Bool:=(!(fe k).isEmpty)&&(mM d (.mk 5 k fE 0 [])||mM d (.mk 20 0 (fC k) 0 []))
def sD (d:VT):Int→Nat→Option Int
 |_,0=>none
 |k,n+1=>if vT d k then some k else sD d (k+1) n
def vZ (d:VT):Option Int:=sD d 1 199
def kindOf (t:VT):Option Int:=if t.kind=24∧t.list.length=2 then (t.list.head?).bind vZ else none
def Km (o:Option Int):Int:=o.getD 0
theorem qM {d:VT}:∀ {n:Nat} {k j:Int},k≤j→j<k+n→vT d j=true→(∀ i,k≤i→i<j→vT d i=false)→sD d k n=some j
 |0,k,j,h1,h2,_,_=>by omega
 |n+1,k,j,h1,h2,h3,h4=>by
  by_cases h:k=j
  ·subst h;simp [sD,h3]
  ·rw [sD,h4 k (by omega) (by omega)]
   simpa using qM (by omega) (by omega) h3 fun i a b=>h4 i (by omega) b
theorem nE {d:VT}:∀ {n:Nat} {k:Int},(∀ i,k≤i→i<k+n→vT d i=false)→sD d k n=none
 |0,k,_=>rfl
 |n+1,k,h=>by
  rw [sD,h k (by omega) (by omega)]
  simpa using nE fun i a b=>h i (by omega) (by omega)
theorem Kn (l:List VT):iQ l []=decide (l=[]):=by cases l<;>simp [iQ]
theorem acm (d:VT) (k:Int):mM d (.mk 5 k fE 0 [])=true↔d.kind=5∧d.num=k∧d.text=fE∧d.elem=0∧d.list=[]:=by
 rw [Cm]
 simp only [VT.kind,VT.num,VT.text,VT.elem,VT.list,Bool.and_eq_true,beq_iff_eq,Kn,decide_eq_true_eq]
 constructor
 ·rintro ⟨a,b,c,e,f⟩;exact ⟨a,b,toList_inj c,e,f⟩
 ·rintro ⟨a,b,c,e,f⟩;exact ⟨a,b,by rw [c],e,f⟩
theorem acn (d:VT) (s:ByteArray):mM d (.mk 20 0 s 0 [])=true↔d.kind=20∧d.num=0∧d.text=s∧d.elem=0∧d.list=[]:=by
 rw [Cm]
 simp only [VT.kind,VT.num,VT.text,VT.elem,VT.list,Bool.and_eq_true,beq_iff_eq,Kn,decide_eq_true_eq]
 constructor
 ·rintro ⟨a,b,c,e,f⟩;exact ⟨a,b,toList_inj c,e,f⟩
 ·rintro ⟨a,b,c,e,f⟩;exact ⟨a,b,by rw [c],e,f⟩
theorem Cw (d:VT) (k:Int):vT d k=true↔fe k≠[]∧((d.kind=5∧d.num=k∧d.text=fE∧d.elem=0∧d.list=[])∨(d.kind=20∧d.num=0∧d.text=fC k∧d.elem=0∧d.list=[])):=by
 unfold vT
 simp only [Bool.and_eq_true,Bool.or_eq_true,acm,acn,Bool.not_eq_true',List.isEmpty_eq_false_iff,ne_eq]
theorem nH {d:VT} {k:Int} (h:¬(fe k≠[]∧((d.kind=5∧d.num=k∧d.text=fE∧d.elem=0∧d.list=[])∨(d.kind=20∧d.num=0∧d.text=fC k∧d.elem=0∧d.list=[])))):vT d k=false:=by
 cases hh:vT d k with
 |false=>rfl
 |true=>exact absurd ((Cw d k).1 hh) h
theorem sF {k:Int} (h:k<16∨120<k):fe k=[]:=zH fun r hr hc=>by
 have hb:∀ r∈rows,16≤r.1∧r.1+r.2.length≤121:=by decide
 have:=hb r hr
 omega
structure ZQ (d:VT):Prop where
 kind:d.kind=5
 text:d.text=fE
 elem:d.elem=0
 list:d.list=[]
structure ZR (d:VT):Prop where
 kind:d.kind=20
 num:d.num=0
 elem:d.elem=0
 list:d.list=[]
theorem F9 {d:VT} (h:ZQ d) (hn:fe d.num≠[]):vZ d=some d.num:=by
 have hb:16≤d.num∧d.num≤120:=by
  by_cases hh:d.num<16∨120<d.num
  ·exact absurd (sF hh) hn
  ·omega
 refine qM (by omega) (by omega) ((Cw _ _).2 ⟨hn,.inl ⟨h.kind,rfl,h.text,h.elem,h.list⟩⟩) fun i _ hi=>nH ?_
 rintro ⟨_,⟨_,h2,_⟩|⟨h2,_⟩⟩
 ·omega
 ·rw [h.kind] at h2;cases h2
theorem sG {d:VT} (h:ZQ d) (hn:fe d.num=[]):vZ d=none:=by
 refine nE fun i _ _=>nH ?_
 rintro ⟨h1,⟨_,h2,_⟩|⟨h2,_⟩⟩
 ·rw [h2] at hn;exact h1 hn
 ·rw [h.kind] at h2;cases h2
theorem mO (k:Int):(fC k).toList=fe k:=by rw [Lib.toList_data];rfl
theorem SF {d:VT} (h:ZR d) {k:Int} (h0:d.text≠fE) (hk:d.text=fC k) (hlo:∀ i,16≤i→i<k→fe i≠[]→d.text≠fC i):vZ d=some k:=by
 have hn:fe k≠[]:=fun hh=>h0 (by rw [hk];unfold fC;rw [hh];rfl)
 have hb:16≤k∧k≤120:=by
  by_cases hh:k<16∨120<k
  ·exact absurd (sF hh) hn
  ·omega
 refine qM (by omega) (by omega) ((Cw _ _).2 ⟨hn,.inr ⟨h.kind,h.num,hk,h.elem,h.list⟩⟩) fun i _ hi=>nH ?_
 rintro ⟨h1,⟨h2,_⟩|⟨_,_,h2,_⟩⟩
 ·rw [h.kind] at h2;cases h2
 ·by_cases hh:16≤i
  ·exact hlo i hh hi h1 h2
  ·exact h1 (sF (by omega))
theorem sH {d:VT} (h:ZR d) (hlo:∀ i,16≤i→i≤120→fe i≠[]→d.text≠fC i):vZ d=none:=by
 refine nE fun i _ _=>nH ?_
 rintro ⟨h1,⟨h2,_⟩|⟨_,_,h2,_⟩⟩
 ·rw [h.kind] at h2;cases h2
 ·by_cases hh:16≤i∧i≤120
  ·exact hlo i hh.1 hh.2 h1 h2
  ·exact h1 (sF (by omega))
theorem Oa {d:VT} (h1:¬ZQ d) (h2:¬ZR d):vZ d=none:=by
 refine nE fun i _ _=>nH ?_
 rintro ⟨_,⟨a,_,b,c,e⟩|⟨a,b,_,c,e⟩⟩
 ·exact h1 ⟨a,b,c,e⟩
 ·exact h2 ⟨a,b,c,e⟩
theorem Ko {k:Int} (h:fe k≠[]):ZP<+:fe k:=by
 unfold fe at h ⊢
 split
 ·exact ⟨_,by rw [List.append_assoc,List.append_assoc]⟩
 ·rename_i hh;rw [hh] at h;exact absurd rfl h
structure FT where
 name:List UInt8
 type:Int
 kinds:List Int
 must:Bool
 dk:Int
 dn:Int
 dt:List UInt8
def FT.dflt (f:FT):VT:= .mk f.dk f.dn ⟨f.dt.toArray⟩ 0 []
def tab:List (Nat×List FT):=[
 (16,[⟨[105,100],19,[],true,0,0,[]⟩,⟨[104,111,115,116],19,[],false,0,0,[]⟩,⟨[109,97,120,45,102,114,97,109,101],4,[],false,4,4294967295,[]⟩,⟨[99,104,97,110,110,101,108,45,109,97,120],3,[],false,3,65535,[]⟩,⟨[105,100,108,101],4,[],false,0,0,[]⟩,⟨[112,114,111,112,115],22,[],false,0,0,[]⟩]),
 (17,[⟨[114,101,109,111,116,101],3,[],false,0,0,[]⟩,⟨[110,101,120,116,45,111,117,116],4,[],true,0,0,[]⟩,⟨[105,110,45,119,105,110,100,111,119],4,[],true,0,0,[]⟩,⟨[111,117,116,45,119,105,110,100,111,119],4,[],true,0,0,[]⟩,⟨[104,97,110,100,108,101,45,109,97,120],4,[],false,4,4294967295,[]⟩,⟨[112,114,111,112,115],22,[],false,0,0,[]⟩]),
 (18,[⟨[110,97,109,101],19,[],true,0,0,[]⟩,⟨[104,97,110,100,108,101],4,[],true,0,0,[]⟩,⟨[114,111,108,101],1,[],true,0,0,[]⟩,⟨[115,110,100,45,109,111,100,101],2,[],false,2,2,[]⟩,⟨[114,99,118,45,109,111,100,101],2,[],false,2,0,[]⟩,⟨[115,111,117,114,99,101],102,[40],false,0,0,[]⟩,⟨[116,97,114,103,101,116],102,[41,48],false,0,0,[]⟩,⟨[117,110,115,101,116,116,108,101,100],22,[],false,0,0,[]⟩,⟨[105,110,99,111,109,112,108,101,116,101],1,[],false,1,0,[]⟩,⟨[105,110,105,116,105,97,108,45,99,111,117,110,116],4,[],false,0,0,[]⟩,⟨[109,97,120,45,109,101,115,115,97,103,101],5,[],false,0,0,[]⟩,⟨[112,114,111,112,115],22,[],false,0,0,[]⟩]),
 (19,[⟨[110,101,120,116,45,105,110],4,[],false,0,0,[]⟩,⟨[105,110,45,119,105,110,100,111,119],4,[],true,0,0,[]⟩,⟨[110,101,120,116,45,111,117,116],4,[],true,0,0,[]⟩,⟨[111,117,116,45,119,105,110,100,111,119],4,[],true,0,0,[]⟩,⟨[104,97,110,100,108,101],4,[],false,0,0,[]⟩,⟨[99,111,117,110,116],4,[],false,0,0,[]⟩,⟨[99,114,101,100,105,116],4,[],false,0,0,[]⟩,⟨[97,118,97,105,108,97,98,108,101],4,[],false,0,0,[]⟩,⟨[100,114,97,105,110],1,[],false,1,0,[]⟩,⟨[101,99,104,111],1,[],false,1,0,[]⟩,⟨[112,114,111,112,115],22,[],false,0,0,[]⟩]),
 (20,[⟨[104,97,110,100,108,101],4,[],true,0,0,[]⟩,⟨[105,100],4,[],false,0,0,[]⟩,⟨[116,97,103],18,[],false,0,0,[]⟩,⟨[102,111,114,109,97,116],4,[],false,0,0,[]⟩,⟨[115,101,116,116,108,101,100],1,[],false,0,0,[]⟩,⟨[109,111,114,101],1,[],false,1,0,[]⟩,⟨[115,116,97,116,101],102,[35,36,37,38,39,51,52],false,0,0,[]⟩,⟨[114,101,115,117,109,101],1,[],false,1,0,[]⟩,⟨[97,98,111,114,116,101,100],1,[],false,1,0,[]⟩,⟨[98,97,116,99,104,97,98,108,101],1,[],false,1,0,[]⟩]),
 (21,[⟨[114,111,108,101],1,[],true,0,0,[]⟩,⟨[102,105,114,115,116],4,[],true,0,0,[]⟩,⟨[108,97,115,116],4,[],false,0,0,[]⟩,⟨[115,101,116,116,108,101,100],1,[],false,1,0,[]⟩,⟨[115,116,97,116,101],102,[35,36,37,38,39,51,52],false,0,0,[]⟩,⟨[98,97,116,99,104,97,98,108,101],1,[],false,1,0,[]⟩]),
 (22,[⟨[104,97,110,100,108,101],4,[],true,0,0,[]⟩,⟨[99,108,111,115,101,100],1,[],false,1,0,[]⟩,⟨[102,97,117,108,116],102,[29],false,0,0,[]⟩]),
 (23,[⟨[102,97,117,108,116],102,[29],false,0,0,[]⟩]),
 (24,[⟨[102,97,117,108,116],102,[29],false,0,0,[]⟩]),
 (29,[⟨[99,111,110,100],20,[],true,0,0,[]⟩,⟨[116,101,120,116],19,[],false,0,0,[]⟩,⟨[105,110,102,111],22,[],false,0,0,[]⟩]),
 (35,[⟨[115,101,99,116,105,111,110],4,[],true,0,0,[]⟩,⟨[111,102,102,115,101,116],5,[],true,0,0,[]⟩]),
 (36,[]),
 (37,[⟨[102,97,117,108,116],102,[29],false,0,0,[]⟩]),
 (38,[]),
 (39,[⟨[102,97,105,108,101,100],1,[],false,0,0,[]⟩,⟨[101,108,115,101,119,104,101,114,101],1,[],false,0,0,[]⟩,⟨[97,110,110],22,[],false,0,0,[]⟩]),
 (40,[⟨[97,100,100,114,101,115,115],19,[],false,0,0,[]⟩,⟨[100,117,114,97,98,108,101],4,[],false,4,0,[]⟩,⟨[101,120,112,105,114,121],20,[],false,20,0,[115,101,115,115,105,111,110,45,101,110,100]⟩,⟨[116,105,109,101,111,117,116],4,[],false,4,0,[]⟩,⟨[100,121,110,97,109,105,99],1,[],false,1,0,[]⟩,⟨[109,111,100,101],20,[],false,0,0,[]⟩,⟨[102,105,108,116,101,114],19,[],false,0,0,[]⟩,⟨[100,101,102,97,117,108,116],102,[36,37,38,39],false,0,0,[]⟩,⟨[111,117,116,99,111,109,101,115],101,[],false,0,0,[]⟩,⟨[99,97,112,115],101,[],false,0,0,[]⟩]),
 (41,[⟨[97,100,100,114,101,115,115],19,[],false,0,0,[]⟩,⟨[100,117,114,97,98,108,101],4,[],false,4,0,[]⟩,⟨[101,120,112,105,114,121],20,[],false,20,0,[115,101,115,115,105,111,110,45,101,110,100]⟩,⟨[116,105,109,101,111,117,116],4,[],false,4,0,[]⟩,⟨[100,121,110,97,109,105,99],1,[],false,1,0,[]⟩,⟨[99,97,112,115],101,[],false,0,0,[]⟩]),
 (48,[⟨[99,97,112,115],101,[],false,0,0,[]⟩]),
 (49,[]),
 (50,[⟨[116,120,110],18,[],true,0,0,[]⟩,⟨[102,97,105,108],1,[],false,1,0,[]⟩]),
 (51,[⟨[116,120,110],18,[],true,0,0,[]⟩]),
 (52,[⟨[116,120,110],18,[],true,0,0,[]⟩,⟨[111,117,116,99,111,109,101],102,[36,37,38,39],false,0,0,[]⟩]),
 (64,[⟨[109,101,99,104,115],101,[],true,0,0,[]⟩]),
 (65,[⟨[109,101,99,104],20,[],true,0,0,[]⟩,⟨[114,101,115,112,111,110,115,101],18,[],false,0,0,[]⟩,⟨[104,111,115,116],19,[],false,0,0,[]⟩]),
 (66,[⟨[99,104,97,108,108,101,110,103,101],18,[],true,0,0,[]⟩]),
 (67,[⟨[114,101,115,112,111,110,115,101],18,[],true,0,0,[]⟩]),
 (68,[⟨[99,111,100,101],2,[],true,0,0,[]⟩,⟨[100,97,116,97],18,[],false,0,0,[]⟩]),
 (112,[⟨[100,117,114,97,98,108,101],1,[],false,1,0,[]⟩,⟨[112,114,105,111,114,105,116,121],2,[],false,2,4,[]⟩,⟨[116,116,108],4,[],false,0,0,[]⟩,⟨[102,105,114,115,116],1,[],false,1,0,[]⟩,⟨[99,111,117,110,116],4,[],false,4,0,[]⟩]),
 (115,[⟨[109,101,115,115,97,103,101,45,105,100],100,[],false,0,0,[]⟩,⟨[117,115,101,114,45,105,100],18,[],false,0,0,[]⟩,⟨[116,111],19,[],false,0,0,[]⟩,⟨[115,117,98,106,101,99,116],19,[],false,0,0,[]⟩,⟨[114,101,112,108,121,45,116,111],19,[],false,0,0,[]⟩,⟨[99,111,114,114,101,108,97,116,105,111,110],100,[],false,0,0,[]⟩,⟨[99,111,110,116,101,110,116,45,116,121,112,101],20,[],false,0,0,[]⟩,⟨[101,110,99,111,100,105,110,103],20,[],false,0,0,[]⟩,⟨[101,120,112,105,114,121],16,[],false,0,0,[]⟩,⟨[99,114,101,97,116,101,100],16,[],false,0,0,[]⟩,⟨[103,114,111,117,112],19,[],false,0,0,[]⟩,⟨[115,101,113,117,101,110,99,101],4,[],false,0,0,[]⟩,⟨[114,101,112,108,121,45,103,114,111,117,112],19,[],false,0,0,[]⟩])]
def iN (k:Nat):Option (List FT):=(tab.find? fun e=>Nat.beq e.1 k).map (·.2)
def aN:Int→Option (List FT)
 | .ofNat k=>iN k
 | .negSucc _=>none
end Go.Proofs.Nu
namespace Go.Proofs.Nu
def wi (s:ByteArray) (k a b:Nat):Bool:=decide (k<s.size)&&(decide (a≤(s.get! k).toNat)&&decide ((s.get! k).toNat≤b))
def tl (s:ByteArray) (k:Nat):Nat→Bool
 |0=>true
 |n+1=>wi s k 128 191&&tl s (k+1) n
def pr (s:ByteArray) (k a b c d n:Nat):Bool:=wi s k a b&&(wi s (k+1) c d&&tl s (k+2) n)
def ch (s:ByteArray) (k:Nat):Nat:=
 if wi s k 0 127 then 1
 else if pr s k 194 223 128 191 0 then 2
 else if pr s k 224 224 160 191 1||(pr s k 225 236 128 191 1||(pr s k 237 237 128 159 1||pr s k 238 239 128 191 1)) then 3
 else if pr s k 240 240 144 191 2||(pr s k 241 243 128 191 2||pr s k 244 244 128 143 2) then 4
 else 0
theorem gT (s:ByteArray) (k a b:Nat):wi s k a b=true↔k<s.size∧a≤(s.get! k).toNat∧(s.get! k).toNat≤b:=by simp [wi]
set_option maxHeartbeats 4000000 in
theorem SG (s:ByteArray) (k:Nat) (h:k<s.size):
 (ch s k=0→Utf8.decode s k=(65533,1))∧(ch s k≠0→(Utf8.decode s k).2=ch s k∧¬((Utf8.decode s k).1=65533∧(Utf8.decode s k).2=1)):=by
 have l0:=(s.get! k).toNat_lt
 have l1:=(s.get! (k+1)).toNat_lt
 have l2:=(s.get! (k+2)).toNat_lt
 have l3:=(s.get! (k+3)).toNat_lt
 have e0:s.get! (k+0)=s.get! k:=rfl
 obtain ⟨b0,h0⟩:∃ b,(s.get! k).toNat=b:=⟨_,rfl⟩
 obtain ⟨b1,h1⟩:∃ b,(s.get! (k+1)).toNat=b:=⟨_,rfl⟩
 obtain ⟨b2,h2⟩:∃ b,(s.get! (k+2)).toNat=b:=⟨_,rfl⟩
 obtain ⟨b3,h3⟩:∃ b,(s.get! (k+3)).toNat=b:=⟨_,rfl⟩
 obtain ⟨n,hn⟩:∃ n,s.size=n:=⟨_,rfl⟩
 have hch:ch s k=(if b0≤127 then 1 else if 194≤b0∧b0≤223∧k+1<n∧128≤b1∧b1≤191 then 2
  else if k+1<n∧k+2<n∧128≤b2∧b2≤191∧(b0=224∧160≤b1∧b1≤191∨225≤b0∧b0≤236∧128≤b1∧b1≤191∨b0=237∧128≤b1∧b1≤159∨238≤b0∧b0≤239∧128≤b1∧b1≤191) then 3
  else if k+1<n∧k+2<n∧k+3<n∧128≤b2∧b2≤191∧128≤b3∧b3≤191∧(b0=240∧144≤b1∧b1≤191∨241≤b0∧b0≤243∧128≤b1∧b1≤191∨b0=244∧128≤b1∧b1≤143) then 4 else 0):=by
  unfold ch pr
  simp only [tl,Bool.and_true,Bool.or_eq_true,Bool.and_eq_true,gT,hn,h0,h1,h2,h3,show k+2+1=k+3 from rfl]
  have hk:k<n:=by omega
  congr 1
  ·simp [hk]
  ·congr 1
   ·apply propext;constructor<;>(intro;omega)
   ·congr 1
    ·apply propext;constructor<;>(intro;omega)
    ·congr 1
     apply propext;constructor<;>(intro;omega)
 have hd:Utf8.decode s k=(if b0<0x80 then (b0,1) else if b0/32=6∧k+1<n∧b1/64=2 then
       (if b0%32*64+b1%64≥0x80 then (b0%32*64+b1%64,2) else (65533,1))
  else if b0/16=14∧(k+1<n∧b1/64=2)∧k+2<n∧b2/64=2 then
   (if b0%16*4096+b1%64*64+b2%64≥0x800∧(b0%16*4096+b1%64*64+b2%64<0xD800∨0xE000≤b0%16*4096+b1%64*64+b2%64) then (b0%16*4096+b1%64*64+b2%64,3) else (65533,1))
  else if b0/8=30∧(k+1<n∧b1/64=2)∧(k+2<n∧b2/64=2)∧k+3<n∧b3/64=2 then
   (if b0%8*262144+b1%64*4096+b2%64*64+b3%64≥0x10000∧b0%8*262144+b1%64*4096+b2%64*64+b3%64≤0x10FFFF then (b0%8*262144+b1%64*4096+b2%64*64+b3%64,4) else (65533,1))
  else (65533,1)):=by
  unfold Utf8.decode Utf8.valid Utf8.runeError
  simp only [Nat.add_zero,h0,h1,h2,h3,hn,Bool.and_eq_true,beq_iff_eq,decide_eq_true_eq,Bool.or_eq_true,and_assoc]
  congr 1
  congr 1
  congr 1
  ·congr 1
   apply propext;constructor<;>(intro;omega)
  ·congr 1
   congr 1
   apply propext;constructor<;>(intro;omega)
 rw [hch,hd]
 clear hch hd
 rw [h0] at l0;rw [h1] at l1;rw [h2] at l2;rw [h3] at l3
 repeat' split
 all_goals (constructor<;>intro hh<;>first|(simp only [Prod.mk.injEq];omega)|(exfalso;omega)|rfl|omega)
end Go.Proofs.Nu
namespace Go.Proofs.Nu
open Go
theorem get!_le (s:ByteArray) (k:Nat) (h:s.size≤k):s.get! k=0:=by
 cases s with
 |mk d=>
  show d[k]! =0
  rw [getElem!_neg d k (by show ¬k<d.size;have:d.size≤k:=h;omega)]
  rfl
theorem get!_lt (s:ByteArray) (k:Nat) (h:k<s.size):s.get! k=s[k]'h:=by
 cases s with
 |mk d=>exact getElem!_pos d k h
theorem get!_extract (s:ByteArray) (k j:Nat) (hk:k≤s.size):(s.extract k s.size).get! j=s.get! (k+j):=by
 by_cases h:k+j<s.size
 ·rw [get!_lt s _ h,get!_lt _ j (by simp;omega)]
  simp [ByteArray.getElem_extract]
 ·rw [get!_le s _ (by omega),get!_le _ j (by simp;omega)]
theorem decode_extract (s:ByteArray) (k:Nat) (hk:k≤s.size):Utf8.decode (s.extract k s.size) 0=Utf8.decode s k:=by
 have hsz:(s.extract k s.size).size=s.size-k:=by simp
 have e:∀ j,(j<s.size-k)=(k+j<s.size):=fun j=>by apply propext;omega
 unfold Utf8.decode
 simp only [get!_extract s k _ hk,hsz,Nat.zero_add,Nat.add_zero,e]
def bad (s:ByteArray):Nat→Nat→Option Nat
 |0,_=>none
 |f+1,k=>if k<s.size then (if ch s k=0 then some k else bad s f (k+ch s k)) else none
theorem Kq (s:ByteArray):∀ (f g k:Nat),s.size-k≤f→s.size-k≤g→bad s f k=bad s g k
 |0,0,_,_,_=>rfl
 |0,g+1,k,h,_=>by
  have:¬k<s.size:=by omega
  simp [bad,this]
 |f+1,0,k,_,h=>by
  have:¬k<s.size:=by omega
  simp [bad,this]
 |f+1,g+1,k,h1,h2=>by
  simp only [bad]
  by_cases hk:k<s.size
  ·rw [if_pos hk,if_pos hk]
   by_cases hc:ch s k=0
   ·rw [if_pos hc,if_pos hc]
   ·rw [if_neg hc,if_neg hc]
    exact Kq s f g _ (by omega) (by omega)
  ·rw [if_neg hk,if_neg hk]
def kC (s:ByteArray) (k:Nat):Int:=match bad s (s.size-k) k with|some j=>(j:Int)|none=> -1
def SH (s:ByteArray):Int:=kC s 0
theorem Q4 {s:ByteArray} {k:Nat} (h:¬k<s.size):kC s k= -1:=by
 unfold kC
 rw [show s.size-k=0 by omega];rfl
theorem Q5 {s:ByteArray} {k:Nat} (h:k<s.size) (hc:ch s k=0):kC s k=k:=by
 unfold kC
 obtain ⟨f,hf⟩:∃ f,s.size-k=f+1:=⟨s.size-k-1,by omega⟩
 rw [hf]
 simp [bad,h,hc]
theorem Kr {s:ByteArray} {k:Nat} (h:k<s.size) (hc:ch s k≠0):kC s k=kC s (k+ch s k):=by
 unfold kC
 obtain ⟨f,hf⟩:∃ f,s.size-k=f+1:=⟨s.size-k-1,by omega⟩
 rw [hf]
 have:bad s (f+1) k=bad s (s.size-(k+ch s k)) (k+ch s k):=by
  rw [bad,if_pos h,if_neg hc]
  exact Kq s _ _ _ (by omega) (by omega)
 rw [this]
theorem Wj {s:ByteArray} {k:Nat} (hc:ch s k≠0):k+ch s k≤s.size:=by
 have key:∀ j a b,wi s j a b=true→j<s.size:=fun j a b h=>((gT s j a b).1 h).1
 unfold ch at hc ⊢
 split
 ·have:=key _ _ _ ‹_›;omega
 ·split
  ·rename_i h
   simp only [pr,Bool.and_eq_true] at h
   have:=key _ _ _ h.2.1;omega
  ·split
   ·rename_i h
    simp only [pr,tl,Bool.and_eq_true,Bool.or_eq_true,Bool.and_true] at h
    have:k+2<s.size:=by
     rcases h with h|h|h|h<;>exact key _ _ _ h.2.2
    omega
   ·split
    ·rename_i h
     simp only [pr,tl,Bool.and_eq_true,Bool.or_eq_true,Bool.and_true] at h
     have:k+2+1<s.size:=by
      rcases h with h|h|h<;>exact key _ _ _ h.2.2.2
     omega
    ·rename_i h1 h2 h3 h4
     rw [if_neg h1,if_neg h2,if_neg h3,if_neg h4] at hc
     exact absurd rfl hc
end Go.Proofs.Nu
namespace Go.Proofs.Nu
open Go Go.RowKit
def sI (k:Int):Bool:=k==14||(k==17||(k==18||(k==19||k==20)))
def sJ (k:Int):Bool:=k==21||(k==22||(k==23||k==24))
def wR (k:Int):Bool:= !(k==0)&&(!sI k&& !sJ k)
def gU (k m:Int) (s:ByteArray) (e:Int) (n:Nat):Bool:=(!wR k&&decide (m≠0))||((!sI k&&decide (s.size≠0))||((!sJ k&&decide (0<n))||(decide (k≠23)&&decide (e≠0))))
def signed (m:Int) (b:Int):Bool:=decide (m<b)||decide (18446744073709551616-b≤m)
def iB (k m:Int):Bool:=
 if k=1 then decide (m<2) else if k=2 then decide (m<256) else if k=3 then decide (m<65536)
 else if k=4∨k=10∨k=12 then decide (m<4294967296)
 else if k=6 then signed m 128 else if k=7 then signed m 32768 else if k=8 then signed m 2147483648
 else if k=15 then decide (m<55296)||(decide (57343<m)&&decide (m≤1114111)) else true
def jP (s:ByteArray) (k:Nat):Int:=match (s.data.toList.drop k).findIdx? (fun x=>decide (128≤x.toNat)) with|some j=>((k+j:Nat):Int)|none=> -1
def VG (s:ByteArray):Int:=jP s 0
theorem Q6 {s:ByteArray} {k:Nat} (h:s.size≤k):jP s k= -1:=by
 unfold jP
 rw [List.drop_eq_nil_of_le (by rw [←Lib.size_eq];exact h)]
 rfl
theorem Cx {s:ByteArray} {k:Nat} (h:k<s.size):s.data.toList.drop k=s[k]::s.data.toList.drop (k+1):=by
 rw [List.drop_eq_getElem_cons (by rw [←Lib.size_eq];exact h)]
 rfl
theorem Q7 {s:ByteArray} {k:Nat} (h:k<s.size) (hc:128≤s[k].toNat):jP s k=k:=by
 unfold jP
 rw [Cx h,List.findIdx?_cons]
 simp [hc]
theorem Kt {s:ByteArray} {k:Nat} (h:k<s.size) (hc:¬128≤s[k].toNat):jP s k=jP s (k+1):=by
 unfold jP
 rw [Cx h,List.findIdx?_cons]
 have:decide (128≤s[k].toNat)=false:=by simpa using hc
 rw [this]
 cases (s.data.toList.drop (k+1)).findIdx? (fun x=>decide (128≤x.toNat)) with
 |none=>rfl
 |some j=>simp only [Bool.false_eq_true,if_false,Option.map_some];congr 1;omega
def rH (k:Int) (s:ByteArray):Bool:=
 if k=14∨k=17 then decide (s.size=16) else if k=19 then decide (SH s<0) else if k=20 then decide (VG s<0) else true
structure Lin {α:Type} (f:α→α→Int):Prop where
 eq:∀ a b,f a b=0↔a=b
 sym:∀ a b,f b a= -f a b
 trans:∀ a b c,f a b<0→f b c<0→f a c<0
def seq (x y:Int):Int:=if x=0 then y else x
theorem qN:Lin Lib.compareInt:=by
 refine ⟨fun a b=>?_,fun a b=>?_,fun a b c=>?_⟩<;>unfold Lib.compareInt<;>(repeat' split)<;>omega
theorem Ku:∀ a b:List UInt8,Lib.compareBytes a b=0↔a=b
 |[],[]=>by simp [Lib.compareBytes]
 |[],_::_=>by simp [Lib.compareBytes]
 |_::_,[]=>by simp [Lib.compareBytes]
 |a::as,b::bs=>by
  have ih:=Ku as bs
  simp only [Lib.compareBytes]
  by_cases h1:a<b
  ·rw [if_pos h1]
   constructor
   ·intro h;cases h
   ·intro h;cases h;exact absurd h1 (UInt8.lt_irrefl _)
  ·rw [if_neg h1]
   by_cases h2:b<a
   ·rw [if_pos h2]
    constructor
    ·intro h;cases h
    ·intro h;cases h;exact absurd h2 (UInt8.lt_irrefl _)
   ·rw [if_neg h2,ih]
    have:a=b:=UInt8.le_antisymm (UInt8.not_lt.1 h2) (UInt8.not_lt.1 h1)
    subst this
    simp
theorem Ga:∀ a b:List UInt8,Lib.compareBytes b a= -Lib.compareBytes a b
 |[],[]=>by simp [Lib.compareBytes]
 |[],_::_=>by simp [Lib.compareBytes]
 |_::_,[]=>by simp [Lib.compareBytes]
 |a::as,b::bs=>by
  have ih:=Ga as bs
  simp only [Lib.compareBytes]
  by_cases h1:a<b
  ·have h2:¬b<a:=UInt8.lt_asymm h1
   simp [h1,h2]
  ·by_cases h2:b<a
   ·simp [h1,h2]
   ·simp [h1,h2,ih]
theorem bytes_trans:∀ a b c:List UInt8,Lib.compareBytes a b<0→Lib.compareBytes b c<0→Lib.compareBytes a c<0
 |[],[],_,h,_=>by simp [Lib.compareBytes] at h
 |[],_::_,[],_,h=>by simp [Lib.compareBytes] at h
 |[],_::_,_::_,_,_=>by simp [Lib.compareBytes]
 |_::_,[],_,h,_=>by simp [Lib.compareBytes] at h
 |_::_,_::_,[],_,h=>by simp [Lib.compareBytes] at h
 |a::as,b::bs,c::cs,h1,h2=>by
  have ih:=bytes_trans as bs cs
  simp only [Lib.compareBytes] at h1 h2 ⊢
  have t:∀ x y:UInt8,x<y↔x.toNat<y.toNat:=fun x y=>UInt8.lt_iff_toNat_lt
  simp only [t] at h1 h2 ⊢
  by_cases a1:a.toNat<b.toNat<;>by_cases a2:b.toNat<a.toNat<;>by_cases b1:b.toNat<c.toNat<;>by_cases b2:c.toNat<b.toNat<;>simp [a1,a2,b1,b2] at h1 h2<;>by_cases c1:a.toNat<c.toNat<;>by_cases c2:c.toNat<a.toNat<;>simp [c1,c2]<;>first|omega|exact ih h1 h2
theorem zI:Lin Lib.compareBytes:=⟨Ku,Ga,bytes_trans⟩
mutual
def jr:VT→VT→Int
 | .mk k m s e l,.mk k' m' s' e' l'=>seq (seq (Lib.compareInt k k') (seq (Lib.compareInt m m') (Lib.compareBytes s.data.toList s'.data.toList))) (seq (cO l l') (Lib.compareInt e e'))
def cO:List VT→List VT→Int
 |[],[]=>0
 |[],_::_=> -1
 |_::_,[]=>1
 |a::l,b::r=>seq (jr a b) (cO l r)
end
theorem Kv {x y:Int}:seq x y=0↔x=0∧y=0:=by unfold seq;split<;>omega
theorem aed (y:Int):seq 0 y=y:=rfl
theorem aco {x:Int} (h:¬x=0) (y:Int):seq x y=x:=if_neg h
theorem xN {x y:Int}:seq (-x) (-y)= -seq x y:=by unfold seq;(repeat' split)<;>omega
def Q8 (x y z:Int):Prop:=(x<0→y<0→z<0)∧(x=0→z=y)∧(y=0→z=x)
theorem Lin.tri {α:Type} {f:α→α→Int} (F:Lin f) (a b c:α):Q8 (f a b) (f b c) (f a c):=
 ⟨F.trans a b c,fun h=>by rw [(F.eq _ _).1 h],fun h=>by rw [(F.eq _ _).1 h]⟩
theorem Q8.seq {x y z x' y' z':Int} (h:Q8 x y z) (k:Q8 x' y' z'):Q8 (seq x x') (seq y y') (seq z z'):=by
 unfold Q8 Nu.seq at*
 obtain ⟨h1,h2,h3⟩:=h
 obtain ⟨k1,k2,k3⟩:=k
 by_cases hx:x=0<;>by_cases hy:y=0<;>by_cases hz:z=0<;>simp_all<;>omega
mutual
theorem BS:∀ a b:VT,jr a b=0↔a=b
 | .mk k m s e l,.mk k' m' s' e' l'=>by
   have ih:=Kw l l'
   simp only [jr,Kv,qN.eq,zI.eq,ih,VT.mk.injEq]
   constructor
   ·rintro ⟨⟨a,b,c⟩,d,f⟩
    refine ⟨a,b,?_,f,d⟩
    cases s;cases s'
    congr 1
    exact Array.toList_inj.1 c
   ·rintro ⟨a,b,c,f,d⟩
    exact ⟨⟨a,b,by rw [c]⟩,d,f⟩
theorem Kw:∀ l r:List VT,cO l r=0↔l=r
 |[],[]=>by simp [cO]
 |[],_::_=>by simp [cO]
 |_::_,[]=>by simp [cO]
 |a::l,b::r=>by
  have i1:=BS a b
  have i2:=Kw l r
  simp only [cO,Kv,i1,i2,List.cons.injEq]
end
mutual
theorem Cy:∀ a b:VT,jr b a= -jr a b
 | .mk k m s e l,.mk k' m' s' e' l'=>by
   have ih:=Gb l l'
   simp only [jr]
   rw [qN.sym k k',qN.sym m m',zI.sym s.data.toList,qN.sym e e',ih,xN,xN,xN,xN]
theorem Gb:∀ l r:List VT,cO r l= -cO l r
 |[],[]=>by simp [cO]
 |[],_::_=>by simp [cO]
 |_::_,[]=>by simp [cO]
 |a::l,b::r=>by
  have i1:=Cy a b
  have i2:=Gb l r
  simp only [cO]
  rw [i1,i2,xN]
end
mutual
theorem Ky:∀ a b c:VT,Q8 (jr a b) (jr b c) (jr a c)
 | .mk k m s e l,.mk k' m' s' e' l',.mk k2 m2 s2 e2 l2=>by
   have ih:=Gc l l' l2
   simp only [jr]
   exact ((qN.tri _ _ _).seq ((qN.tri _ _ _).seq (zI.tri _ _ _))).seq (ih.seq (qN.tri _ _ _))
theorem Gc:∀ a b c:List VT,Q8 (cO a b) (cO b c) (cO a c)
 |[],[],c=>by simp [Q8,cO]
 |[],_::_,[]=>by simp [Q8,cO]
 |[],_::_,_::_=>by simp [Q8,cO]
 |_::_,[],[]=>by simp [Q8,cO]
 |_::_,[],_::_=>by simp [Q8,cO]
 |_::_,_::_,[]=>by simp [Q8,cO]
 |a::l,b::r,c::q=>by
  have i1:=Ky a b c
  have i2:=Gc l r q
  simp only [cO]
  exact i1.seq i2
end
theorem Ik:Lin jr:=⟨BS,Cy,fun a b c=>(Ky a b c).1⟩
mutual
theorem ve:∀ a b:VT,mM a b=true↔a=b
 | .mk k m s e l,.mk k' m' s' e' l'=>by
   have ih:=Kz l l'
   simp only [mM,Bool.and_eq_true,beq_iff_eq,ih,VT.mk.injEq]
   constructor
   ·rintro ⟨a,b,c,d,f⟩;exact ⟨a,b,toList_inj c,d,f⟩
   ·rintro ⟨a,b,c,d,f⟩;exact ⟨a,b,by rw [c],d,f⟩
theorem Kz:∀ l r:List VT,iQ l r=true↔l=r
 |[],[]=>by simp [iQ]
 |[],_::_=>by simp [iQ]
 |_::_,[]=>by simp [iQ]
 |a::l,b::r=>by
  have i1:=ve a b
  have i2:=Kz l r
  simp only [iQ,Bool.and_eq_true,i1,i2,List.cons.injEq]
end
theorem Il {α:Type} {f:α→α→Int} (F:Lin f):Sort.SWO (fun x y=>decide (f x y<0)) where
 irrefl x:=by have:=(F.eq x x).2 rfl;simp [this]
 trans x y z h1 h2:=by simp only [decide_eq_true_eq] at*;exact F.trans _ _ _ h1 h2
 ntrans x y z h1 h2:=by
  simp only [decide_eq_false_iff_not] at*
  intro h
  have s1:=F.sym x y
  have s2:=F.sym y z
  by_cases e1:f x y=0
  ·rw [(F.eq _ _).1 e1] at h;exact h2 h
  ·by_cases e2:f y z=0
   ·rw [←(F.eq _ _).1 e2] at h;exact h1 h
   ·have:=F.trans z y x (by omega) (by omega)
    have s3:=F.sym x z
    omega
theorem Ob {l r:List VT} {k:Nat} {a b:VT} (ha:l[k]? =some a) (hb:r[k]? =some b):cO (l.drop k) (r.drop k)=seq (jr a b) (cO (l.drop (k+1)) (r.drop (k+1))):=by
 have h1:l.drop k=a::l.drop (k+1):=by
  rw [List.drop_eq_getElem_cons (List.getElem?_eq_some_iff.1 ha).1];congr 1;exact (List.getElem?_eq_some_iff.1 ha).2
 have h2:r.drop k=b::r.drop (k+1):=by
  rw [List.drop_eq_getElem_cons (List.getElem?_eq_some_iff.1 hb).1];congr 1;exact (List.getElem?_eq_some_iff.1 hb).2
 rw [h1,h2,cO]
theorem Oc {l r:List VT} {k:Nat} (h1:k<l.length) (h2:r.length≤k):cO (l.drop k) (r.drop k)=1:=by
 rw [List.drop_eq_getElem_cons h1,List.drop_eq_nil_of_le h2,cO]
theorem SI {l r:List VT} {k:Nat} (h1:l.length≤k):cO (l.drop k) (r.drop k)=if k<r.length then -1 else 0:=by
 rw [List.drop_eq_nil_of_le h1]
 by_cases h:k<r.length
 ·rw [List.drop_eq_getElem_cons h,cO,if_pos h]
 ·rw [List.drop_eq_nil_of_le (by omega),cO,if_neg h]
def bz (w w':World):Prop:=∃ (q:Nat) (os:Array Obj),w'=Sort.grow (w.drewN q) os
theorem bz.refl (w:World):bz w w:=⟨0,#[],by unfold Sort.grow World.drewN;simp⟩
theorem bz.trans {a b c:World} (h:bz a b) (k:bz b c):bz a c:=by
 obtain ⟨q,os,rfl⟩:=h
 obtain ⟨q',os',rfl⟩:=k
 exact ⟨q+q',os++os',by unfold Sort.grow World.drewN;simp [Array.append_assoc,Nat.add_assoc]⟩
theorem bz.alloc {a b:World} (h:bz a b) (o:Obj):bz a (b.alloc o):=h.trans ⟨0,#[o],by unfold Sort.grow World.drewN World.alloc;simp⟩
theorem bz.drew {a b:World} (h:bz a b):bz a b.drew:=h.trans ⟨1,#[],by unfold Sort.grow World.drewN World.drew;simp⟩
theorem bz.drewN {a b:World} (h:bz a b) (n:Nat):bz a (b.drewN n):=h.trans ⟨n,#[],by unfold Sort.grow World.drewN;simp⟩
theorem bz.below {a b:World} (h:bz a b):Below a.heap.size a b:=by
 obtain ⟨q,os,rfl⟩:=h
 refine ⟨rfl,rfl,rfl,?_,fun k hk=>?_⟩
 ·show a.heap.size≤(a.heap++os).size
  simp
 ·show (a.heap++os)[k]? =a.heap[k]?
  rw [Array.getElem?_append_left hk]
theorem bz.size {a b:World} (h:bz a b):a.heap.size≤b.heap.size:=h.below.size
def keysOf {α:Type}:List α→List α
 |a::_::r=>a::keysOf r
 |_=>[]
def oK:List VT→Bool
 |[]=>true
 |a::r=> !(r.any fun b=>mM a b)&&oK r
def kQ (l:List VT):Bool:=decide (l.length%2=0)&&(decide (l.length≤2048)&&oK (keysOf l))
theorem oL:∀ l:List VT,oK l=true↔l.Nodup
 |[]=>by simp [oK]
 |a::r=>by
  have ih:=oL r
  simp only [oK,Bool.and_eq_true,Bool.not_eq_true',List.any_eq_false,ve,ih,List.nodup_cons]
  constructor
  ·rintro ⟨h1,h2⟩;exact ⟨fun h=>h1 a h rfl,h2⟩
  ·rintro ⟨h1,h2⟩;exact ⟨fun x hx e=>h1 (by rw [e];exact hx),h2⟩
theorem wh {α:Type}:∀ (l:List α),l.length%2=0→(keysOf l).length=l.length/2
 |[],_=>by simp [keysOf]
 |[_],h=>by simp at h
 |a::b::r,h=>by
  have:=wh r (by simp at h;omega)
  simp only [keysOf,List.length_cons,this]
  omega
theorem kR {α:Type}:∀ (l:List α) (j:Nat),l.length%2=0→(keysOf l)[j]? =l[2*j]?
 |[],j,_=>by simp [keysOf]
 |[_],_,h=>by simp at h
 |a::b::r,0,_=>by simp [keysOf]
 |a::b::r,j+1,h=>by
  have:=kR r j (by simp at h;omega)
  rw [keysOf,List.getElem?_cons_succ,this,show 2*(j+1)=2*j+1+1 by omega,List.getElem?_cons_succ,List.getElem?_cons_succ]
theorem qO {l:List VT}:l.Nodup↔∀ (i j:Nat) (x:VT),i<j→l[i]? =some x→l[j]? ≠some x:=by
 rw [List.nodup_iff_pairwise_ne,List.pairwise_iff_getElem]
 constructor
 ·intro h i j x hij hi hj
  obtain ⟨h1,h2⟩:=List.getElem?_eq_some_iff.1 hi
  obtain ⟨h3,h4⟩:=List.getElem?_eq_some_iff.1 hj
  exact h i j h1 h3 hij (h2.trans h4.symm)
 ·intro h i j hi hj hij e
  exact h i j l[i] hij (List.getElem?_eq_getElem hi) (by rw [List.getElem?_eq_getElem hj,e])
theorem xO {L:List VT} (hs:∀ (i j:Nat) x y,i<j→L[i]? =some x→L[j]? =some y→0≤jr y x):L.Nodup↔∀ (i:Nat) x y,L[i]? =some x→L[i+1]? =some y→jr x y≠0:=by
 rw [qO]
 constructor
 ·intro h i x y hx hy e
  have:=(BS _ _).1 e
  subst this
  exact h i (i+1) x (by omega) hx hy
 ·intro h i j x hij hx hj
  obtain ⟨y,hy⟩:∃ y,L[i+1]? =some y:=⟨_,List.getElem?_eq_getElem (by have:=(List.getElem?_eq_some_iff.1 hj).1;omega)⟩
  have h1:=h i x y hx hy
  have h2:=hs i (i+1) x y (by omega) hx hy
  have h3:=Cy y x
  by_cases e:i+1=j
  ·rw [e,hj] at hy
   cases hy
   exact h1 ((BS _ _).2 rfl)
  ·have h4:=hs (i+1) j y x (by omega) hy hj
   omega
theorem sK {l:List VT} {L:List VT} (h0:l.length%2=0) (h1:l.length≤2048) (hp:L.Perm (keysOf l)) {b:Bool} (hb:b=true↔L.Nodup):kQ l=b:=by
 have:oK (keysOf l)=b:=by
  rw [Bool.eq_iff_iff,oL,hb]
  exact hp.nodup_iff.symm
 unfold kQ
 rw [this]
 simp [h0,h1]
section
variable {β:Type} {l:List VT} {d d':List (VT×β)}
theorem Cz (hs:∀ (i j:Nat) x y,i<j→d'[i]? =some x→d'[j]? =some y→0≤jr y.1 x.1):∀ (i j:Nat) x y,i<j→(d'.map (·.1))[i]? =some x→(d'.map (·.1))[j]? =some y→0≤jr y x:=by
 intro i j x y hij hx hy
 rw [List.getElem?_map] at hx hy
 obtain ⟨a,ha,rfl⟩:=Option.map_eq_some_iff.1 hx
 obtain ⟨b,hb,rfl⟩:=Option.map_eq_some_iff.1 hy
 exact hs i j a b hij ha hb
theorem acp (h0:l.length%2=0) (h1:l.length≤2048) (hp:(d'.map (·.1)).Perm (d.map (·.1))) (hk:d.map (·.1)=keysOf l) (hs:∀ (i j:Nat) x y,i<j→d'[i]? =some x→d'[j]? =some y→0≤jr y.1 x.1) {q:Nat} {x y:VT×β} (hx:d'[q]? =some x) (hy:d'[q+1]? =some y) (e:jr x.1 y.1=0):kQ l=false:=by
 refine sK h0 h1 (hk▸hp) ?_
 rw [xO (Cz hs)]
 constructor
 ·intro h;cases h
 ·intro h
  exact absurd e (h q x.1 y.1 (by rw [List.getElem?_map,hx];rfl) (by rw [List.getElem?_map,hy];rfl))
theorem ZT (h0:l.length%2=0) (h1:l.length≤2048) (hp:(d'.map (·.1)).Perm (d.map (·.1))) (hk:d.map (·.1)=keysOf l) (hs:∀ (i j:Nat) x y,i<j→d'[i]? =some x→d'[j]? =some y→0≤jr y.1 x.1) (hn:∀ (k:Nat) x y,d'[k]? =some x→d'[k+1]? =some y→jr x.1 y.1≠0):kQ l=true:=by
 refine sK h0 h1 (hk▸hp) ?_
 rw [xO (Cz hs)]
 refine ⟨fun _ i x y hx hy=>?_,fun _=>rfl⟩
 rw [List.getElem?_map] at hx hy
 obtain ⟨a,ha,rfl⟩:=Option.map_eq_some_iff.1 hx
 obtain ⟨b,hb,rfl⟩:=Option.map_eq_some_iff.1 hy
 exact hn i a b ha hb
end
def rT (el:Int) (l:List VT):Bool:=decide (0<el)&&(decide (el<24)&&l.all fun t=>decide (t.kind=el))
def cz (t:VT) (d:Int):Int:=
 if t.kind<0∨24<t.kind then 20
 else if 32<d then 26
 else if gU t.kind t.num t.text t.elem t.list.length then 25
 else if !iB t.kind t.num then 21
 else if !rH t.kind t.text then 22
 else if t.kind=22∧kQ t.list=false then 23
 else if t.kind=23∧rT t.elem t.list=false then 24
 else if t.kind=24∧t.list.length≠2 then 27
 else 0
mutual
def aB:VT→Int→Int
 | .mk k m s e l,d=>if cz (.mk k m s e l) d≠0 then cz (.mk k m s e l) d else bT l (d+1)
def bT:List VT→Int→Int
 |[],_=>0
 |t::r,d=>if aB t d≠0 then aB t d else bT r d
end
mutual
def gV:VT→Nat
 | .mk _ _ _ _ l=>dH l+1
def dH:List VT→Nat
 |[]=>0
 |t::r=>max (gV t) (dH r)
end
theorem pR (t:VT) (d:Int):aB t d=if cz t d≠0 then cz t d else bT t.list (d+1):=by cases t;rw [aB];rfl
theorem qP {l:List VT} {k:Nat} {t:VT} (h:l[k]? =some t) (d:Int):bT (l.drop k) d=if aB t d≠0 then aB t d else bT (l.drop (k+1)) d:=by
 have h1:l.drop k=t::l.drop (k+1):=by
  rw [List.drop_eq_getElem_cons (List.getElem?_eq_some_iff.1 h).1];congr 1;exact (List.getElem?_eq_some_iff.1 h).2
 rw [h1,bT]
theorem A8 (l:List VT) (d:Int):bT (l.drop l.length) d=0:=by rw [List.drop_length,bT]
theorem zJ (t:VT):gV t=dH t.list+1:=by cases t;rw [gV];rfl
theorem wS {t:VT} {d:Int} (h:cz t d=0):d≤32:=by
 unfold cz at h
 split at h
 ·cases h
 ·split at h
  ·cases h
  ·omega
def ah:VT:= .mk 0 0 fE 0 []
def gB (x:VT):VT:= .mk 23 0 fE 20 [x]
def bF (f:FT) (v:VT):Bool:=
 if f.type=100 then true
 else if f.type=101 then decide (v.kind=23)&&decide (v.elem=20)
 else if f.type=102 then (match kindOf v with
  |some k=>f.kinds.contains k
  |none=>false)
 else decide (v.kind=f.type)
abbrev Rd:=FT→VT→Except Int VT
def bA (rd:Rd) (f:FT) (x:VT):Except Int VT:=
 if x.kind=0 then (if f.must then .error 72 else .ok f.dflt)
 else if f.type=101∧x.kind=20 then .ok (gB x)
 else if bF f x then rd f x else .error 73
def eD (rd:Rd):List FT→List VT→Nat→Except (Nat×Int) (List VT)
 |[],_,_=> .ok []
 |f::fs,g,i=>match bA rd f (g.headD ah) with
  | .error e=> .error (i,e)
  | .ok y=>match eD rd fs g.tail (i+1) with
    | .error e=> .error e
    | .ok r=> .ok (y::r)
def bH (rd:Rd) (v:VT):Except (Nat×Int) (Int×List VT):=
 match kindOf v with
 |none=> .error (0,70)
 |some k=>match aN k with
  |none=> .error (0,70)
  |some fs=>match v.list with
   |[_,x]=>if x.kind≠21 then .error (0,70) else if fs.length<x.list.length then .error (fs.length,71) else
      match eD rd fs x.list 0 with
      | .error e=> .error e
      | .ok l=> .ok (k,l)
   |_=> .error (0,70)
def eT:List VT→List VT
 |[]=>[]
 |a::r=>match eT r with
  |[]=>if a.kind=0 then [] else [a]
  |b::s=>a::b::s
def fK (k:Int) (l:List VT):VT:= .mk 24 0 fE 0 [.mk 5 k fE 0 [],.mk 21 0 fE 0 l]
def okV (a:Except Int VT):VT:=match a with| .ok y=>y| .error _=>ah
def aT (rd:Rd) (f:FT) (v:VT):VT:=if v.kind=0∨mM v f.dflt=true then ah else okV (rd f v)
def gN (rd:Rd) (k:Int) (l:List VT):VT:=fK k (eT (List.zipWith (aT rd) ((aN k).getD []) l))
def dh (r:VT→Except (Nat×Int) (Int×List VT)) (p:Int→List VT→VT) (f:FT) (v:VT):Except Int VT:=
 if f.type=102 then (match r v with
  | .error e=> .error e.2
  | .ok a=> .ok (p a.1 a.2)) else .ok v
def ai:Nat→Rd
 |0=>dh (fun _=> .error (0,99)) fK
 |n+1=>dh (bH (ai n)) (gN (ai n))
abbrev oM (n:Nat):=bH (ai n)
abbrev aU (n:Nat):=gN (ai n)
def A9 (rd:Rd) (f:FT) (v:VT):VT:=if f.type=102∧v.kind≠0 then (match rd f v with| .ok y=>y| .error _=>fK 0 []) else v
def CB (rd:Rd) (f:FT) (v:VT):VT:=if mM (A9 rd f v) f.dflt=true then ah else A9 rd f v
def CG (rd:Rd) (k:Int) (l:List VT):VT:=fK k (eT (List.zipWith (CB rd) ((aN k).getD []) l))
def sM (rd:Rd) (v:VT):Except (Nat×Int) (Int×List VT):=if aB v 1≠0 then .error (0,aB v 1) else bH rd v
def kD:Nat→Rd
 |0=>dh (fun _=> .error (0,99)) fK
 |n+1=>dh (sM (kD n)) (CG (kD n))
abbrev ZU (n:Nat):=sM (kD n)
abbrev aee (n:Nat):=CG (kD n)
def fM (f:FT):Bool:=
 (!decide (f.type=102)||(decide (f.dk=0)&&(decide (f.dn=0)&&(f.dt.isEmpty&& !f.must))))&&((!f.must||(decide (f.dk=0)&&(decide (f.dn=0)&&f.dt.isEmpty)))&&(!decide (f.type=101)||decide (f.dk=0)))
theorem Wl:∀ e∈tab,∀ f∈e.2,fM f=true:=by decide
theorem SK:∀ e∈tab,fe e.1≠[]:=by decide
theorem eU {k:Int} {fs:List FT} (h:aN k=some fs):∃ e∈tab,(e.1:Int)=k∧e.2=fs:=by
 cases k with
 |negSucc j=>cases h
 |ofNat n=>
  have h:iN n=some fs:=h
  unfold iN at h
  obtain ⟨e,he,rfl⟩:=Option.map_eq_some_iff.1 h
  refine ⟨e,List.mem_of_find?_eq_some he,?_,rfl⟩
  have:=List.find?_some he
  have:=Nat.eq_of_beq_eq_true this
  rw [this];rfl
theorem iW {k:Int} {fs:List FT} (h:aN k=some fs) {f:FT} (hf:f∈fs):fM f=true:=by
 obtain ⟨e,he,_,rfl⟩:=eU h
 exact Wl e he f hf
theorem Gd {f:FT} (h1:f.dk=0) (h2:f.dn=0) (h3:f.dt=[]):f.dflt=ah:=by
 unfold FT.dflt ah fE;rw [h1,h2,h3]
theorem zK {f:FT} (h:fM f=true) (ht:f.type=102):f.dflt=ah∧f.must=false:=by
 unfold fM at h
 simp only [ht,decide_true,Bool.not_true,Bool.false_or,Bool.and_eq_true,decide_eq_true_eq,List.isEmpty_iff,Bool.not_eq_true'] at h
 exact ⟨Gd h.1.1 h.1.2.1 h.1.2.2.1,h.1.2.2.2⟩
theorem SL {f:FT} (h:fM f=true) (hm:f.must=true):f.dflt=ah:=by
 unfold fM at h
 simp only [hm,Bool.not_true,Bool.false_or,Bool.and_eq_true,decide_eq_true_eq,List.isEmpty_iff] at h
 exact Gd h.2.1.1 h.2.1.2.1 h.2.1.2.2
theorem Wm {f:FT} (h:fM f=true) (ht:f.type=101):f.dflt.kind=0:=by
 unfold fM at h
 simp only [ht,decide_true,Bool.not_true,Bool.false_or,Bool.and_eq_true,decide_eq_true_eq] at h
 exact h.2.2
mutual
theorem xP:∀ t:VT,mM t t=true
 | .mk k m s e l=>by rw [mM];simp [Gf l]
theorem Gf:∀ l:List VT,iQ l l=true
 |[]=>by rw [iQ]
 |t::r=>by rw [iQ,xP t,Gf r];rfl
end
theorem KA:∀ l:List VT,(eT l).length≤l.length
 |[]=>Nat.le_refl _
 |a::r=>by
  have:=KA r
  unfold eT
  split
  ·split<;>simp
  ·rename_i h;rw [h] at this;simpa using this
theorem KC:∀ {l:List VT} {x:VT},x∈eT l→x∈l
 |[],x,h=>h
 |a::r,x,h=>by
  have ih:=fun {x}=>KC (l:=r) (x:=x)
  unfold eT at h
  split at h
  ·split at h
   ·cases h
   ·rw [List.mem_singleton.1 h];exact List.mem_cons_self
  ·rename_i b s hb
   rcases List.mem_cons.1 h with rfl|h
   ·exact List.mem_cons_self
   ·rw [hb] at ih;exact List.mem_cons_of_mem _ (ih h)
theorem KD:∀ (l:List VT) (i:Nat),((eT l)[i]?).getD ah=(l[i]?).getD ah∨(((eT l)[i]?).getD ah=ah∧((l[i]?).getD ah).kind=0)
 |[],i=> .inl rfl
 |a::r,i=>by
  have ih:=KD r
  unfold eT
  split
  ·rename_i h
   rw [h] at ih
   split
   ·rename_i hk
    refine .inr ⟨by simp,?_⟩
    cases i with
    |zero=>simpa using hk
    |succ i=>
     have:=ih i
     simp only [List.getElem?_nil,Option.getD_none,true_and] at this
     rw [List.getElem?_cons_succ]
     rcases this with h|h
     ·rw [←h];rfl
     ·exact h
   ·cases i with
    |zero=>exact .inl rfl
    |succ i=>
     have:=ih i
     simp only [List.getElem?_nil,Option.getD_none,true_and] at this
     rw [List.getElem?_cons_succ,List.getElem?_cons_succ]
     simpa using this
  ·rename_i b s h
   cases i with
   |zero=>exact .inl rfl
   |succ i=>
    rw [List.getElem?_cons_succ,List.getElem?_cons_succ,←h]
    exact ih i
theorem KE (rd:Rd) (f:FT) {x y:VT} (hx:x.kind=0) (hy:y.kind=0):bA rd f x=bA rd f y:=by unfold bA;rw [if_pos hx,if_pos hy]
theorem ng (l:List VT):l.headD ah=(l[0]?).getD ah:=by cases l<;>rfl
theorem pU (l:List VT) (i:Nat):(l.tail[i]?).getD ah=(l[i+1]?).getD ah:=by cases l<;>rfl
theorem xQ {rd rd':Rd}:∀ {fs:List FT} {g g':List VT} {i:Nat},(∀ (j:Nat) (f:FT),fs[j]? =some f→bA rd f ((g[j]?).getD ah)=bA rd' f ((g'[j]?).getD ah))→eD rd fs g i=eD rd' fs g' i
 |[],g,g',i,_=>rfl
 |f::fs,g,g',i,h=>by
  have h0:=h 0 f rfl
  have ht:=xQ (rd:=rd) (rd':=rd') (fs:=fs) (g:=g.tail) (g':=g'.tail) (i:=i+1) fun j f' hj=>by rw [pU,pU];exact h (j+1) f' hj
  unfold eD
  rw [ng,ng,h0,ht]
theorem kS {rd:Rd}:∀ {fs:List FT} {g:List VT} {i:Nat} {l:List VT},eD rd fs g i= .ok l→l.length=fs.length∧∀ (j:Nat) (f:FT) (y:VT),fs[j]? =some f→l[j]? =some y→bA rd f ((g[j]?).getD ah)= .ok y
 |[],g,i,l,h=>by cases h;exact ⟨rfl,fun j f y hf=>by simp at hf⟩
 |f::fs,g,i,l,h=>by
  unfold eD at h
  split at h
  ·cases h
  ·rename_i y hy
   split at h
   ·cases h
   ·rename_i r hr
    cases h
    obtain ⟨h1,h2⟩:=kS hr
    refine ⟨by simp [h1],fun j f' y' hf hy'=>?_⟩
    cases j with
    |zero=>simp at hf hy';subst hf;subst hy';rw [←ng];exact hy
    |succ j=>simp at hf hy';rw [←pU];exact h2 j f' y' hf hy'
theorem vg {rd:Rd}:∀ {fs:List FT} {g:List VT} {i:Nat} {l:List VT},l.length=fs.length→(∀ (j:Nat) (f:FT) (y:VT),fs[j]? =some f→l[j]? =some y→bA rd f ((g[j]?).getD ah)= .ok y)→eD rd fs g i= .ok l
 |[],g,i,[],hl,h=>rfl
 |[],g,i,y::l,hl,h=>by simp at hl
 |f::fs,g,i,[],hl,h=>by simp at hl
 |f::fs,g,i,y::l,hl,h=>by
  unfold eD
  rw [ng,h 0 f y rfl rfl]
  simp only
  rw [vg (l:=l) (by simpa using hl) fun j f' y' hf hy=>by rw [pU];exact h (j+1) f' y' hf hy]
structure KF (rd:Rd) (v:VT) (k:Int) (fs:List FT) (l:List VT):Prop where
 kind:kindOf v=some k
 fields:aN k=some fs
 body:∃ d x,v.list=[d,x]∧x.kind=21∧x.list.length≤fs.length∧eD rd fs x.list 0= .ok l
theorem dS {rd:Rd} {v:VT} {k:Int} {l:List VT} (h:bH rd v= .ok (k,l)):∃ fs,KF rd v k fs l:=by
 unfold bH at h
 split at h
 ·cases h
 ·rename_i k' hk
  split at h
  ·cases h
  ·rename_i fs hfs
   split at h
   ·rename_i d x hl
    split at h
    ·cases h
    ·rename_i hx
     split at h
     ·cases h
     ·rename_i hlen
      split at h
      ·cases h
      ·rename_i l' hi
       cases h
       exact ⟨fs,hk,hfs,d,x,hl,by simpa using hx,by omega,hi⟩
   ·cases h
theorem Od {rd:Rd} {v:VT} {k:Int} {fs:List FT} {l:List VT} (h:KF rd v k fs l):bH rd v= .ok (k,l):=by
 obtain ⟨h1,h2,d,x,h3,h4,h5,h6⟩:=h
 unfold bH
 rw [h1]
 simp only [h2,h3]
 rw [if_neg (by simp [h4]),if_neg (by omega),h6]
theorem xR {k:Int} {fs:List FT} (h:aN k=some fs) (l:List VT):kindOf (fK k l)=some k:=by
 obtain ⟨e,he,hk,_⟩:=eU h
 have hn:=SK e he
 rw [hk] at hn
 unfold kindOf fK
 rw [if_pos ⟨rfl,rfl⟩]
 show vZ (.mk 5 k fE 0 [])=some k
 exact F9 (d:= .mk 5 k fE 0 []) ⟨rfl,rfl,rfl,rfl⟩ hn
theorem xS {a b:VT} (h:mM a b=true):a.kind=b.kind:=by rw [(ve a b).1 h]
def Plain (rd:Rd):Prop:=∀ f x,f.type≠102→rd f x= .ok x
def Im (rd:Rd):Prop:=∀ f x y,x.kind≠0→bF f x=true→rd f x= .ok y→rd f y= .ok y∧bF f y=true∧y.kind≠0
theorem aV:∀ n,Plain (ai n)
 |0=>fun f x h=>by show dh _ _ f x=_;unfold dh;rw [if_neg h]
 |n+1=>fun f x h=>by show dh _ _ f x=_;unfold dh;rw [if_neg h]
theorem Oe {f:FT} (h:f.type=101) {v:VT} (hw:bF f v=true):v.kind=23:=by
 unfold bF at hw
 rw [if_neg (by omega),if_pos h] at hw
 simp only [Bool.and_eq_true,decide_eq_true_eq] at hw
 exact hw.1
theorem CJ {f:FT} (h:f.type=101) (x:VT):bF f (gB x)=true:=by
 unfold bF
 rw [if_neg (by omega),if_pos h];rfl
theorem qQ {rd:Rd} (hp:Plain rd) (hs:Im rd) {f:FT} (hg:fM f=true) {x y:VT} (h:bA rd f x= .ok y):bA rd f (aT rd f y)= .ok y∧(aT rd f y=ah∨aT rd f y=y):=by
 unfold bA at h
 split at h
 ·rename_i hx
  split at h
  ·cases h
  ·rename_i hm
   cases h
   have e:aT rd f f.dflt=ah:=by unfold aT;rw [if_pos (.inr (xP _))]
   rw [e]
   exact ⟨by unfold bA;rw [if_pos (show ah.kind=0 from rfl),if_neg hm],.inl rfl⟩
 ·rename_i hx
  split at h
  ·rename_i ht
   cases h
   have hd:=Wm hg ht.1
   have e:aT rd f (gB x)=gB x:=by
    unfold aT
    rw [if_neg,hp f _ (by omega)]
    ·rfl
    ·rintro (h|h)
     ·cases h
     ·have:=xS h;rw [hd] at this;cases this
   rw [e]
   refine ⟨?_,.inr rfl⟩
   unfold bA
   rw [if_neg (show ¬(gB x).kind=0 from fun h=>by cases h),if_neg (by rintro ⟨_,h⟩;cases h),if_pos (CJ ht.1 x),hp f _ (by omega)]
  ·rename_i hns
   split at h
   ·rename_i hw
    obtain ⟨h1,h2,h3⟩:=hs f x y hx hw h
    unfold aT
    split
    ·rename_i hc
     have hd:mM y f.dflt=true:=hc.resolve_left h3
     have ey:=(ve _ _).1 hd
     refine ⟨?_,.inl rfl⟩
     unfold bA
     rw [if_pos (show ah.kind=0 from rfl),if_neg,ey]
     intro hm
     rw [SL hg hm] at ey
     exact h3 (by rw [ey];rfl)
    ·rw [h1]
     refine ⟨?_,.inr rfl⟩
     show bA rd f y=_
     unfold bA
     rw [if_neg h3,if_neg (by rintro ⟨ht,h⟩;have:=Oe ht h2;omega),if_pos h2,h1]
   ·cases h
theorem BU {α β γ:Type} {g:α→β→γ}:∀ {a:List α} {b:List β} {i:Nat} {x:α} {y:β},a[i]? =some x→b[i]? =some y→(List.zipWith g a b)[i]? =some (g x y):=fun h h'=>by
 rw [List.getElem?_zipWith,h,h']
theorem Og {rd:Rd} (hp:Plain rd) (hs:Im rd) {v:VT} {k:Int} {l:List VT} (h:bH rd v= .ok (k,l)):bH rd (gN rd k l)= .ok (k,l):=by
 obtain ⟨fs,hk,hf,d,x,h3,h4,h5,h6⟩:=dS h
 obtain ⟨hl,hi⟩:=kS h6
 unfold gN
 rw [hf]
 refine Od (fs:=fs) ⟨xR hf _,hf,_,_,rfl,rfl,?_,vg hl fun j f y hj hy=>?_⟩
 ·refine Nat.le_trans (KA _) ?_
  rw [Option.getD_some,List.length_zipWith,hl,Nat.min_self];exact Nat.le_refl _
 ·have hit:=(qQ hp hs (iW hf (List.mem_of_getElem? hj)) (hi j f y hj hy)).1
  have hz:(List.zipWith (aT rd) fs l)[j]? =some (aT rd f y):=BU hj hy
  rw [Option.getD_some,←hit]
  rcases KD (List.zipWith (aT rd) fs l) j with e|⟨e1,e2⟩
  ·show bA rd f (((eT (List.zipWith (aT rd) fs l))[j]?).getD ah)=_
   rw [e,hz];rfl
  ·rw [hz] at e2
   show bA rd f (((eT (List.zipWith (aT rd) fs l))[j]?).getD ah)=_
   rw [e1]
   exact KE rd f rfl e2
theorem CK:∀ n,Im (ai n)
 |0=>fun f x y hx hw h=>by
  by_cases ht:f.type=102
  ·have h:dh _ _ f x=_:=h
   unfold dh at h
   rw [if_pos ht] at h
   cases h
  ·rw [aV 0 f x ht] at h
   cases h
   exact ⟨aV 0 f x ht,hw,hx⟩
 |n+1=>fun f x y hx hw h=>by
  by_cases ht:f.type=102
  ·have h:dh _ _ f x=_:=h
   unfold dh at h
   rw [if_pos ht] at h
   split at h
   ·cases h
   ·rename_i a ha
    obtain ⟨k,l⟩:=a
    cases h
    have h2:=Og (aV n) (CK n) ha
    obtain ⟨fs,hk,hf,_⟩:=dS ha
    refine ⟨?_,?_,fun e=>by cases e⟩
    ·show dh _ _ f _=_
     unfold dh
     rw [if_pos ht,h2]
    ·unfold bF at hw ⊢
     rw [if_neg (by omega),if_neg (by omega),if_pos ht] at hw ⊢
     unfold gN
     rw [xR hf]
     rw [hk] at hw
     exact hw
  ·rw [aV (n+1) f x ht] at h
   cases h
   exact ⟨aV (n+1) f x ht,hw,hx⟩
theorem jT {t:VT} {d d':Int} (h:cz t d=0) (hd:d'≤32):cz t d'=0:=by
 have h2:=wS h
 unfold cz at h ⊢
 split at h
 ·cases h
 ·rename_i h0
  rw [if_neg h0,if_neg (by omega)]
  rw [if_neg (by omega)] at h
  exact h
mutual
theorem kT:∀ (t:VT) {d d':Int},d'≤d→aB t d=0→aB t d'=0
 | .mk k m s e l,d,d',hd,h=>by
   rw [aB] at h ⊢
   split at h
   ·rename_i h1;exact absurd h h1
   ·rename_i h1
    have h1:cz (.mk k m s e l) d=0:=by simpa using h1
    have h2:=jT (d':=d') h1 (by have:=wS h1;omega)
    rw [if_neg (by simp [h2])]
    exact Ba l (by omega) h
theorem Ba:∀ (l:List VT) {d d':Int},d'≤d→bT l d=0→bT l d'=0
 |[],d,d',_,_=>by rw [bT]
 |t::r,d,d',hd,h=>by
  rw [bT] at h ⊢
  split at h
  ·rename_i h1;exact absurd h h1
  ·rename_i h1
   have h1:aB t d=0:=by simpa using h1
   rw [if_neg (by simp [kT t hd h1])]
   exact Ba r hd h
end
theorem gW (t:VT) (d:Int):aB t d=0↔cz t d=0∧bT t.list (d+1)=0:=by
 rw [pR]
 by_cases h:cz t d=0<;>simp [h]
theorem lQ:∀ (l:List VT) (d:Int),bT l d=0↔∀ x∈l,aB x d=0
 |[],d=>by simp [bT]
 |t::r,d=>by
  rw [bT]
  have:=lQ r d
  by_cases h:aB t d=0<;>simp [h,this]
theorem ni {t:VT} {d:Int} (h:aB t d=0) {x:VT} (hx:x∈t.list):aB x (d+1)=0:=(lQ _ _).1 ((gW t d).1 h).2 x hx
theorem qR {d:Int} (hd:d≤32):aB ah d=0:=by
 rw [gW]
 exact ⟨jT (d:=1) (by decide) hd,by show bT [] _=0;rw [bT]⟩
theorem CL {t:VT} {d:Int} (h:cz t d=0):gU t.kind t.num t.text t.elem t.list.length=false:=by
 unfold cz at h
 split at h
 ·cases h
 ·split at h
  ·cases h
  ·split at h
   ·cases h
   ·rename_i hx;simpa using hx
theorem FC {v:VT} {d:Int} (h:aB v d=0) (hk:v.kind=0):v=ah:=by
 have hx:=CL ((gW v d).1 h).1
 rw [hk] at hx
 obtain ⟨k,m,s,e,l⟩:=v
 obtain rfl:k=0:=hk
 have x1:sI 0=false:=by decide
 have x2:sJ 0=false:=by decide
 have x3:wR 0=false:=by decide
 unfold gU at hx
 rw [x1,x2,x3] at hx
 simp only [VT.num,VT.text,VT.elem,VT.list,Bool.not_false,Bool.true_and,Bool.or_eq_false_iff,ne_eq,Bool.and_eq_false_imp,decide_eq_true_eq] at hx
 obtain ⟨h3,h4,h5,h6⟩:=hx
 have h3:=Decidable.not_not.1 (of_decide_eq_false h3)
 have h4:=Decidable.not_not.1 (of_decide_eq_false h4)
 have h5:=of_decide_eq_false h5
 have hs:s=fE:=by
  have hz:s.data.size=0:=h4
  have hz:s.data= #[]:=Array.eq_empty_of_size_eq_zero hz
  cases s
  exact congrArg ByteArray.mk hz
 have hl:l=[]:=List.eq_nil_of_length_eq_zero (by omega)
 have he:e=0:=Decidable.not_not.1 (of_decide_eq_false (h6 (by omega)))
 rw [h3,hs,hl,he];rfl
theorem Io {x:VT} (hx:x.kind=20) {d:Int} (hd:d≤32) (h:aB x (d+1)=0):aB (gB x) d=0:=by
 rw [gW]
 refine ⟨jT (d:=1) ?_ hd,?_⟩
 ·unfold cz gB
  simp only [VT.kind,VT.num,VT.text,VT.elem,VT.list]
  have:rT 20 [x]=true:=by unfold rT;simp [hx]
  rw [this]
  rfl
 ·show bT [x] _=0
  rw [lQ]
  intro y hy
  rw [List.mem_singleton.1 hy];exact h
theorem CO {k:Int} {fs:List FT} (h:aN k=some fs) {f:FT} (hf:f∈fs) {d:Int} (hd:d≤32):aB f.dflt d=0:=by
 obtain ⟨e,he,_,rfl⟩:=eU h
 have ht:∀ e∈tab,∀ f∈e.2,cz f.dflt 1=0:=by decide
 rw [gW]
 exact ⟨jT (ht e he f hf) hd,by show bT [] _=0;rw [bT]⟩
theorem KH {k:Int} {l:List VT} {d:Int} (hd:d+1≤32) (h:∀ x∈l,aB x (d+2)=0):aB (fK k l) d=0:=by
 rw [gW]
 refine ⟨jT (d:=1) rfl (by omega),?_⟩
 show bT [_,_] _=0
 rw [lQ]
 intro y hy
 simp only [List.mem_cons,List.not_mem_nil,or_false] at hy
 rcases hy with rfl|rfl
 ·rw [gW]
  exact ⟨jT (d:=1) rfl (by omega),by show bT [] _=0;rw [bT]⟩
 ·rw [gW]
  refine ⟨jT (d:=1) ?_ (by omega),(lQ _ _).2 fun x hx=>?_⟩
  ·unfold cz
   simp only [VT.kind,VT.num,VT.text,VT.elem,VT.list]
   unfold gU
   simp only [show sI 21=false by decide,show sJ 21=true by decide,show wR 21=false by decide]
   rfl
  ·have:=h x hx
   rwa [show d+1+1=d+2 by omega]
def Chk (rd:Rd):Prop:=∀ f x y d,bF f x=true→rd f x= .ok y→aB x d=0→aB y (d-1)=0
theorem KI {rd:Rd} (hc:Chk rd) {k:Int} {fs:List FT} (hf:aN k=some fs) {f:FT} (hm:f∈fs) {x y:VT} {d:Int} (hd:d≤33) (h:bA rd f x= .ok y) (hx:aB x d=0):aB y (d-1)=0:=by
 unfold bA at h
 split at h
 ·split at h
  ·cases h
  ·cases h
   exact CO hf hm (by omega)
 ·split at h
  ·rename_i ht
   cases h
   exact Io ht.2 (by omega) (by rw [show d-1+1=d by omega];exact hx)
  ·split at h
   ·rename_i hw
    exact hc f x y d hw h hx
   ·cases h
theorem CP {rd:Rd} (hc:Chk rd) {v:VT} {d:Int} (hv:aB v d=0) {k:Int} {fs:List FT} {l:List VT} (h:KF rd v k fs l):d+1≤32∧∀ y∈l,aB y (d+1)=0:=by
 obtain ⟨hk,hf,dd,x,h3,h4,h5,h6⟩:=h
 obtain ⟨hl,hi⟩:=kS h6
 have hx:=ni hv (x:=x) (by rw [h3];simp)
 have Oh:=wS ((gW _ _).1 hx).1
 refine ⟨Oh,fun y hy=>?_⟩
 obtain ⟨j,hj⟩:=List.getElem?_of_mem hy
 obtain ⟨f,hfj⟩:∃ f,fs[j]? =some f:=⟨_,List.getElem?_eq_getElem (by rw [←hl];exact (List.getElem?_eq_some_iff.1 hj).1)⟩
 have h7:=hi j f y hfj hj
 have hm:=List.mem_of_getElem? hfj
 cases hg:x.list[j]? with
 |none=>
  rw [hg] at h7
  have:=KI hc hf hm (d:=1) (by omega) h7 (qR (by omega))
  unfold bA at h7
  rw [if_pos (show ((none:Option VT).getD ah).kind=0 from rfl)] at h7
  split at h7
  ·cases h7
  ·cases h7
   exact CO hf hm Oh
 |some u=>
  rw [hg] at h7
  have hu:=ni hx (List.mem_of_getElem? hg)
  have:=KI hc hf hm (d:=d+1+1) (by omega) h7 hu
  rwa [show d+1+1-1=d+1 by omega] at this
theorem Ip {rd:Rd} (hp:Plain rd) (hs:Im rd) {v:VT} {k:Int} {fs:List FT} {l:List VT} (h:KF rd v k fs l) {x:VT} (hx:x∈List.zipWith (aT rd) fs l):x=ah∨x∈l:=by
 obtain ⟨hk,hf,dd,b,h3,h4,h5,h6⟩:=h
 obtain ⟨hl,hi⟩:=kS h6
 obtain ⟨j,hj⟩:=List.getElem?_of_mem hx
 have hlt:=(List.getElem?_eq_some_iff.1 hj).1
 rw [List.length_zipWith] at hlt
 obtain ⟨f,hfj⟩:∃ f,fs[j]? =some f:=⟨_,List.getElem?_eq_getElem (by omega)⟩
 obtain ⟨y,hy⟩:∃ y,l[j]? =some y:=⟨_,List.getElem?_eq_getElem (by omega)⟩
 rw [BU hfj hy] at hj
 cases hj
 rcases (qQ hp hs (iW hf (List.mem_of_getElem? hfj)) (hi j f y hfj hy)).2 with e|e
 ·exact .inl e
 ·rw [e];exact .inr (List.mem_of_getElem? hy)
theorem Wo {rd:Rd} (hp:Plain rd) (hs:Im rd) (hc:Chk rd) {v:VT} {d:Int} (hv:aB v d=0) {k:Int} {l:List VT} (h:bH rd v= .ok (k,l)):aB (gN rd k l) (d-1)=0:=by
 obtain ⟨fs,hr⟩:=dS h
 obtain ⟨hd,hl⟩:=CP hc hv hr
 unfold gN
 rw [hr.fields]
 refine KH (by omega) fun x hx=>?_
 rw [show d-1+2=d+1 by omega]
 rcases Ip hp hs hr (KC hx) with rfl|h
 ·exact qR hd
 ·exact hl x h
theorem aef:∀ n,Chk (ai n)
 |0=>fun f x y d hw h hx=>by
  by_cases ht:f.type=102
  ·have h:dh _ _ f x=_:=h
   unfold dh at h
   rw [if_pos ht] at h
   cases h
  ·rw [aV 0 f x ht] at h
   cases h
   exact kT x (by omega) hx
 |n+1=>fun f x y d hw h hx=>by
  by_cases ht:f.type=102
  ·have h:dh _ _ f x=_:=h
   unfold dh at h
   rw [if_pos ht] at h
   split at h
   ·cases h
   ·rename_i a ha
    cases h
    exact Wo (aV n) (CK n) (aef n) hx ha
  ·rw [aV (n+1) f x ht] at h
   cases h
   exact kT x (by omega) hx
theorem Q9 {n:Nat} (hQ:∀ f x,aB x 1=0→kD n f x=ai n f x) {f:FT} (hg:fM f=true) {v:VT} (hv:aB v 1=0) (hr:v.kind≠0→∃ y,ai n f v= .ok y):CB (kD n) f v=aT (ai n) f v:=by
 by_cases hk:v.kind=0
 ·obtain rfl:=FC hv hk
  have e:A9 (kD n) f ah=ah:=if_neg (fun h=>h.2 rfl)
  unfold CB aT
  rw [if_pos (.inl rfl:ah.kind=0∨_),e]
  split<;>rfl
 ·obtain ⟨y,hy⟩:=hr hk
  have hy':=(hQ f v hv).trans hy
  by_cases ht:f.type=102
  ·obtain ⟨hd,_⟩:=zK hg ht
   have hyk:y.kind=24:=by
    cases n with
    |zero=>
     have hy:dh _ _ f v=_:=hy
     unfold dh at hy
     rw [if_pos ht] at hy
     cases hy
    |succ n=>
     have hy:dh _ _ f v=_:=hy
     unfold dh at hy
     rw [if_pos ht] at hy
     split at hy
     ·cases hy
     ·cases hy;rfl
   have e:A9 (kD n) f v=y:=by unfold A9;rw [if_pos ⟨ht,hk⟩,hy']
   unfold CB aT
   rw [e,hd,hy,if_neg,if_neg]
   ·rfl
   ·rintro (h|h)
    ·exact hk h
    ·exact hk (xS h)
   ·intro h;have:=xS h;rw [hyk] at this;cases this
  ·have e:A9 (kD n) f v=v:=if_neg (fun h=>ht h.1)
   unfold CB aT
   rw [e,aV n f v ht]
   simp only [hk,false_or,okV]
theorem wm {α β γ:Type} {g g':α→β→γ}:∀ {a:List α} {b:List β},(∀ (i:Nat) x y,a[i]? =some x→b[i]? =some y→g x y=g' x y)→List.zipWith g a b=List.zipWith g' a b
 |[],b,_=>by simp
 |x::a,[],_=>by simp
 |x::a,y::b,h=>by
  rw [List.zipWith_cons_cons,List.zipWith_cons_cons,h 0 x y rfl rfl,wm fun i x y hx hy=>h (i+1) x y hx hy]
theorem ZV {n:Nat} (hQ:∀ f x,aB x 1=0→kD n f x=ai n f x) {k:Int} {fs:List FT} {l:List VT} (hf:aN k=some fs) (hl:∀ (j:Nat) (f:FT) (v:VT),fs[j]? =some f→l[j]? =some v→aB v 1=0∧(v.kind≠0→∃ y,ai n f v= .ok y)):aee n k l=aU n k l:=by
 show CG (kD n) k l=gN (ai n) k l
 unfold CG gN
 rw [hf,Option.getD_some,wm (g:=CB (kD n)) (g':=aT (ai n)) fun i f v hf' hv=>Q9 hQ (iW hf (List.mem_of_getElem? hf')) (hl i f v hf' hv).1 (hl i f v hf' hv).2]
theorem SN {n:Nat} (hQ:∀ f x,aB x 1=0→kD n f x=ai n f x) {v:VT} (hv:aB v 1=0):ZU n v=oM n v:=by
 show sM (kD n) v=bH (ai n) v
 unfold sM
 rw [if_neg (by simp [hv])]
 unfold bH
 cases hk:kindOf v with
 |none=>rfl
 |some k=>
  cases hf:aN k with
  |none=>simp only [hf]
  |some fs=>
   simp only [hf]
   match hl:v.list with
   |[d,x]=>
    have hx:=ni hv (x:=x) (by rw [hl];simp)
    have e:eD (kD n) fs x.list 0=eD (ai n) fs x.list 0:=xQ fun j f hj=>by
     have hc:aB ((x.list[j]?).getD ah) 1=0:=by
      cases hg:x.list[j]? with
      |none=>exact qR (by omega)
      |some u=>exact kT u (d:=1+1+1) (by omega) (ni hx (List.mem_of_getElem? hg))
     unfold bA
     rw [hQ f _ hc]
    simp only [e]
   |[]=>rfl
   |[_]=>rfl
   |_::_::_::_=>rfl
theorem KJ {n:Nat} {v:VT} (hv:aB v 1=0) {k:Int} {fs:List FT} {l:List VT} (h:KF (ai n) v k fs l):∀ (j:Nat) (f:FT) (y:VT),fs[j]? =some f→l[j]? =some y→aB y 1=0∧(y.kind≠0→∃ z,ai n f y= .ok z):=by
 obtain ⟨hd,hc⟩:=CP (aef n) hv h
 obtain ⟨hk,hf,dd,x,h3,h4,h5,h6⟩:=h
 obtain ⟨hl,hi⟩:=kS h6
 intro j f y hj hy
 refine ⟨kT y (by omega) (hc y (List.mem_of_getElem? hy)),fun hk0=>?_⟩
 have h7:=hi j f y hj hy
 have hg:=iW hf (List.mem_of_getElem? hj)
 unfold bA at h7
 split at h7
 ·split at h7
  ·cases h7
  ·cases h7
   by_cases ht:f.type=102
   ·exact absurd (by rw [(zK hg ht).1];rfl) hk0
   ·exact ⟨_,aV n f _ ht⟩
 ·split at h7
  ·rename_i ht
   exact ⟨_,aV n f _ (by omega)⟩
  ·split at h7
   ·rename_i hx hw
    exact ⟨_,(CK n f _ y (by assumption) hw h7).1⟩
   ·cases h7
theorem Ra:∀ n,∀ f x,aB x 1=0→kD n f x=ai n f x
 |0=>fun f x _=>rfl
 |n+1=>fun f x hx=>by
  show dh _ _ f x=dh _ _ f x
  unfold dh
  by_cases ht:f.type=102
  ·rw [if_pos ht,if_pos ht]
   have e:=SN (Ra n) hx
   have e:sM (kD n) x=bH (ai n) x:=e
   rw [e]
   cases hu:bH (ai n) x with
   |error e=>rfl
   |ok a=>
    obtain ⟨k,l⟩:=a
    obtain ⟨fs,hr⟩:=dS hu
    have:=ZV (Ra n) hr.fields (KJ hx hr)
    have this:CG (kD n) k l=gN (ai n) k l:=this
    simp only [this]
  ·rw [if_neg ht,if_neg ht]
def gX (rd:Rd) (f:FT) (v:VT):Int:=
 if v.kind=0∧f.must=true then 72 else if aB v 1≠0∨v.kind=0 then aB v 1 else if bF f v=false then 73 else match rd f v with
  | .error e=>e
  | .ok _=>0
def dI (rd:Rd):List FT→List VT→Int
 |f::fs,v::l=>if gX rd f v≠0 then gX rd f v else dI rd fs l
 |_,_=>0
def recC (rd:Rd) (pk:Int→List VT→VT) (k:Int) (l:List VT):Int:=
 match aN k with
 |none=>70
 |some fs=>if l.length≠fs.length then 71 else if dI rd fs l≠0 then dI rd fs l else if 32<gV (pk k l) then 26 else 0
theorem sN {rd:Rd}:∀ {fs:List FT} {l:List VT},dI rd fs l=0→∀ (j:Nat) (f:FT) (v:VT),fs[j]? =some f→l[j]? =some v→gX rd f v=0
 |[],_,_,j,f,v,hf,_=>by simp at hf
 |_::_,[],_,j,f,v,_,hv=>by simp at hv
 |f0::fs,v0::l,h,j,f,v,hf,hv=>by
  unfold dI at h
  split at h
  ·rename_i h1;exact absurd h h1
  ·rename_i h1
   cases j with
   |zero=>simp at hf hv;subst hf;subst hv;simpa using h1
   |succ j=>simp at hf hv;exact sN h j f v hf hv
theorem Gg {rd:Rd} {f:FT} {v:VT} (h:gX rd f v=0) (he:∀ e,rd f v= .error e→e≠0):aB v 1=0∧(v.kind≠0→bF f v=true∧∃ y,rd f v= .ok y):=by
 unfold gX at h
 split at h
 ·cases h
 ·split at h
  ·rename_i h1
   exact ⟨h,fun hk=>absurd h (h1.resolve_right hk)⟩
  ·rename_i h1
   simp only [not_or,ne_eq,Decidable.not_not] at h1
   split at h
   ·cases h
   ·rename_i hw
    refine ⟨h1.1,fun _=>⟨by simpa using hw,?_⟩⟩
    split at h
    ·rename_i e hh
     exact absurd h (he e hh)
    ·rename_i y hh
     exact ⟨y,hh⟩
theorem CQ {rd:Rd} (hr:∀ f x e,rd f x= .error e→e≠0):∀ {fs:List FT} {g:List VT} {i:Nat} {e:Nat×Int},eD rd fs g i= .error e→e.2≠0
 |[],g,i,e,h=>by cases h
 |f::fs,g,i,e,h=>by
  unfold eD at h
  split at h
  ·rename_i e' he
   cases h
   unfold bA at he
   split at he
   ·split at he
    ·cases he;exact (by decide:(72:Int)≠0)
    ·cases he
   ·split at he
    ·cases he
    ·split at he
     ·exact hr _ _ _ he
     ·cases he;exact (by decide:(73:Int)≠0)
  ·split at h
   ·rename_i e' he;cases h;exact CQ hr he
   ·cases h
theorem sO {rd:Rd} (hr:∀ f x e,rd f x= .error e→e≠0) {v:VT} {e:Nat×Int} (h:bH rd v= .error e):e.2≠0:=by
 unfold bH at h
 split at h
 ·cases h;decide
 ·split at h
  ·cases h;decide
  ·split at h
   ·split at h
    ·cases h;decide
    ·split at h
     ·cases h;exact (by decide:(71:Int)≠0)
     ·split at h
      ·rename_i e' he;cases h;exact CQ hr he
      ·cases h
   ·cases h;decide
theorem kU:∀ n f x e,ai n f x= .error e→e≠0
 |0,f,x,e,h=>by
  have h:dh _ _ f x=_:=h
  unfold dh at h
  split at h
  ·cases h;decide
  ·cases h
 |n+1,f,x,e,h=>by
  have h:dh _ _ f x=_:=h
  unfold dh at h
  split at h
  ·split at h
   ·rename_i e' he;cases h;exact sO (kU n) he
   ·cases h
  ·cases h
theorem xU {n:Nat} {fs:List FT} {l:List VT} (h:dI (ai n) fs l=0):∀ (j:Nat) (f:FT) (v:VT),fs[j]? =some f→l[j]? =some v→aB v 1=0∧(v.kind≠0→bF f v=true∧∃ y,ai n f v= .ok y):=fun j f v hf hv=>
 Gg (sN h j f v hf hv) (kU n f v)
structure Kc (br:Nat) (w w':World):Prop where
 os:w'.os=w.os
 tape:w'.tape=w.tape
 output:w'.output=w.output
 size:w.heap.size≤w'.heap.size
 cells:∀ k cs T fr,k≠br→w.heap[k]? =some (.cells cs T fr)→w'.heap[k]? =some (.cells cs T fr)
 low:∀ k,k<br-1→k<w.heap.size→w'.heap[k]? =w.heap[k]?
theorem Kc.refl (br:Nat) (w:World):Kc br w w:=⟨rfl,rfl,rfl,Nat.le_refl _,fun _ _ _ _ _ h=>h,fun _ _ _=>rfl⟩
theorem Kc.trans {br:Nat} {a b c:World} (h:Kc br a b) (k:Kc br b c):Kc br a c:=
 ⟨k.os.trans h.os,k.tape.trans h.tape,k.output.trans h.output,Nat.le_trans h.size k.size,fun i cs T fr hi hh=>k.cells i cs T fr hi (h.cells i cs T fr hi hh),fun i h1 h2=>(k.low i h1 (Nat.lt_of_lt_of_le h2 h.size)).trans (h.low i h1 h2)⟩
theorem Kc.of_below {br:Nat} {w w':World} (h:Below w.heap.size w w'):Kc br w w':=
 ⟨h.os,h.tape,h.output,h.size,fun k _ _ _ _ hh=>(h.block k (Array.getElem?_eq_some_iff.1 hh).1).trans hh,fun k _ h2=>h.block k h2⟩
theorem Kc.below {w w':World} (h:Kc (w.heap.size+1) w w'):Below w.heap.size w w':=⟨h.os,h.tape,h.output,h.size,fun k hk=>h.low k (by omega) hk⟩
theorem cells_of_cell {w:World} {p:Addr} {v:Value} (h:w.cell? p=some v):∃ cs T fr,w.heap[p.block]? =some (.cells cs T fr):=by
 unfold World.cell? at h
 cases hh:w.heap[p.block]? with
 |none=>rw [hh] at h;cases h
 |some o=>
  rw [hh] at h
  cases o<;>first|exact ⟨_,_,_,rfl⟩|cases h
theorem Kc.cell {br:Nat} {w w':World} (hk:Kc br w w') {p:Addr} {v:Value} (h:w.cell? p=some v) (hp:p.block≠br):w'.cell? p=some v:=by
 obtain ⟨cs,T,fr,hh⟩:=cells_of_cell h
 have h2:=hk.cells _ _ _ _ hp hh
 rw [World.cell?_of_block (w:=w) (h2.trans hh.symm)]
 exact h
theorem bR.kc {B br:Nat} {w w':World} (hk:Kc br w w') (hB:B≤br):∀ {n:Nat} {v:Value} {ts:List VT},bR B w n v ts→bR B w' n v ts
 |0,_,_,h=>h
 |n+1,v,ts,h=>by
  rcases h with h|⟨b,off,c,h1,h2,h3,h4⟩
  ·exact .inl h
  ·have hb:b≠br:=by omega
   exact .inr ⟨b,off,c,h1,h2,h3,fun i t ht=>let ⟨hf,lv,ha,hl⟩:=h4 i t ht;⟨hf,lv,⟨hk.cell ha.kind hb,hk.cell ha.num hb,hk.cell ha.text hb,hk.cell ha.list hb,hk.cell ha.elem hb⟩,bR.kc hk hB hl⟩⟩
mutual
def nodes:VT→Nat
 | .mk _ _ _ _ l=>aj l+1
def aj:List VT→Nat
 |[]=>0
 |t::r=>nodes t+aj r
end
theorem aX (t:VT):nodes t=aj t.list+1:=by cases t;rw [nodes];rfl
theorem KL {l:List VT} {k:Nat} {t:VT} (h:l[k]? =some t):aj (l.drop k)=nodes t+aj (l.drop (k+1)):=by
 have h1:l.drop k=t::l.drop (k+1):=by
  rw [List.drop_eq_getElem_cons (List.getElem?_eq_some_iff.1 h).1];congr 1;exact (List.getElem?_eq_some_iff.1 h).2
 rw [h1,aj]
mutual
theorem SQ:∀ t:VT,gV t≤nodes t
 | .mk _ _ _ _ l=>by rw [gV,nodes];have:=qU l;omega
theorem qU:∀ l:List VT,dH l≤aj l
 |[]=>by rw [dH,aj];exact Nat.le_refl _
 |t::r=>by rw [dH,aj];have:=SQ t;have:=qU r;omega
end
theorem pV {l:List VT} {k:Nat} {t:VT} (h:l[k]? =some t):nodes t+aj (l.drop (k+1))≤aj l:=by
 induction l generalizing k with
 |nil=>simp at h
 |cons a r ih=>
  cases k with
  |zero=>simp at h;subst h;rw [aj];simp
  |succ k=>
   have:=ih (k:=k) (by simpa using h)
   rw [aj,List.drop_succ_cons]
   omega
structure It (B:Nat) (w0:World) (N:Nat) where
 d:Int
 t:VT
 lv:Value
 fine:t.bD
 vX:bR B w0 N lv t.list
def It.ok {B:Nat} {w0:World} {N:Nat} (y:It B w0 N):Prop:=cz y.t y.d=0
section
variable {B:Nat} {w0:World} {N:Nat}
def Rb (t:VT) (d:Int) (ys:List (It B w0 N)):Prop:=(∀ y∈ys,y.ok)→aB t d=0
def KM (t:VT) (d:Int) (q:List (It B w0 N)):Prop:=q≠[]∧∀ q' y,q=q'++[y]→(∀ z∈q',z.ok)→¬y.ok→aB t d=cz y.t y.d
def Oi (t:VT) (d:Int) (j:Nat) (ys:List (It B w0 N)):Prop:=(∀ y∈ys,y.ok)→cz t d=0∧bT (t.list.drop j) (d+1)=bT t.list (d+1)
theorem Oj {t:VT} {d:Int} {y:It B w0 N} (ht:y.t=t) (hd:y.d=d):KM t d [y]:=by
 refine ⟨by simp,fun q' z h _ hz=>?_⟩
 have:q'=[]∧y=z:=by
  cases q' with
  |nil=>simpa using h
  |cons a q'=>simp at h
 obtain ⟨_,rfl⟩:=this
 unfold It.ok at hz
 rw [ht,hd] at hz ⊢
 rw [pR,if_pos hz]
theorem Ol {t:VT} {d:Int} {y:It B w0 N} (ht:y.t=t) (hd:y.d=d):Oi t d 0 [y]:=fun h=>by
 have:=h y (by simp)
 unfold It.ok at this
 rw [ht,hd] at this
 exact ⟨this,rfl⟩
theorem SS {t u:VT} {d:Int} {j:Nat} {ys ys':List (It B w0 N)} (h:Oi t d j ys) (hu:t.list[j]? =some u) (hf:Rb u (d+1) ys'):Oi t d (j+1) (ys++ys'):=fun hok=>by
 obtain ⟨h1,h2⟩:=h fun y hy=>hok y (List.mem_append_left _ hy)
 have h3:=hf fun y hy=>hok y (List.mem_append_right _ hy)
 refine ⟨h1,?_⟩
 rw [qP hu,h3] at h2
 simpa using h2
theorem Om {t u:VT} {d:Int} {j:Nat} {ys q:List (It B w0 N)} (h:Oi t d j ys) (hu:t.list[j]? =some u) (hq:KM u (d+1) q):KM t d (ys++q):=by
 refine ⟨fun e=>hq.1 (List.append_eq_nil_iff.1 e).2,fun q' y he hz hy=>?_⟩
 obtain ⟨q1,y1,rfl⟩:∃ q1 y1,q=q1++[y1]:=⟨q.dropLast,q.getLast hq.1,(List.dropLast_concat_getLast hq.1).symm⟩
 rw [←List.append_assoc] at he
 obtain ⟨rfl,h1⟩:=List.append_inj' he rfl
 obtain rfl:y1=y:=by simpa using h1
 have hc:=hq.2 q1 y1 rfl (fun z hz'=>hz z (List.mem_append_right _ hz')) hy
 obtain ⟨h2,h3⟩:=h fun z hz'=>hz z (List.mem_append_left _ hz')
 have hne:aB u (d+1)≠0:=by rw [hc];exact hy
 rw [qP hu,if_pos hne] at h3
 rw [pR,if_neg (by rw [h2];simp),←h3,hc]
theorem SV {t:VT} {d:Int} {ys:List (It B w0 N)} (h:Oi t d t.list.length ys):Rb t d ys:=fun hok=>by
 obtain ⟨h1,h2⟩:=h hok
 rw [A8] at h2
 rw [pR,if_neg (by rw [h1];simp),←h2]
def maxD (n0:Int) (ys:List (It B w0 N)):Int:=ys.foldl (fun n y=>max n y.d) n0
theorem KN (n0:Int) (ys zs:List (It B w0 N)):maxD n0 (ys++zs)=maxD (maxD n0 ys) zs:=by simp [maxD,List.foldl_append]
def Rc (t:VT) (d:Int) (ys:List (It B w0 N)):Prop:=∀ n0,maxD n0 ys=max n0 (d+(gV t:Int)-1)
def SX (t:VT) (d:Int) (j:Nat) (ys:List (It B w0 N)):Prop:=∀ n0,maxD n0 ys=max n0 (d+(dH (t.list.take j):Int))
theorem qV:∀ (l:List VT) (u:VT),dH (l++[u])=max (dH l) (gV u)
 |[],u=>by simp [dH]
 |a::l,u=>by rw [List.cons_append,dH,qV l u,dH];omega
theorem Oo {t:VT} {d:Int} {y:It B w0 N} (hd:y.d=d):SX t d 0 [y]:=fun n0=>by simp [maxD,dH,hd]
theorem SY {t u:VT} {d:Int} {j:Nat} {ys ys':List (It B w0 N)} (h:SX t d j ys) (hu:t.list[j]? =some u) (hf:Rc u (d+1) ys'):SX t d (j+1) (ys++ys'):=fun n0=>by
 rw [KN,h n0,hf,List.take_add_one,hu,show (some u).toList=[u] from rfl,qV]
 omega
theorem S9 {t:VT} {d:Int} {ys:List (It B w0 N)} (h:SX t d t.list.length ys):Rc t d ys:=fun n0=>by
 rw [h n0,List.take_length,zJ]
 congr 1
 omega
end
def rk (k:Int):Nat:=if k=37∨k=22∨k=23∨k=24 then 1 else if k=40∨k=52 then 2 else if k=18∨k=20∨k=21 then 3 else 0
def Zv (o:Option Int):Nat:=match o with|some k=>rk k|none=>0
theorem Gh (k:Int):rk k≤3:=by unfold rk;(repeat' split)<;>omega
theorem acr:∀ e∈tab,∀ f∈e.2,∀ j∈f.kinds,rk j<rk e.1:=by decide
theorem Wp {k:Int} {fs:List FT} (h:aN k=some fs) {f:FT} (hf:f∈fs) {j:Int} (hj:j∈f.kinds):rk j<rk k:=by
 obtain ⟨e,he,hk,rfl⟩:=eU h
 have:=acr e he f hf j hj
 rwa [hk] at this
theorem nk {k:Int} {fs:List FT} (h:aN k=some fs) {f:FT} (hf:f∈fs) (ht:f.type=102) {v:VT} (hw:bF f v=true):Zv (kindOf v)<rk k:=by
 unfold bF at hw
 rw [if_neg (by omega),if_neg (by omega),if_pos ht] at hw
 cases hk:kindOf v with
 |none=>rw [hk] at hw;cases hw
 |some j=>
  rw [hk] at hw
  exact Wp h hf (by simpa using hw)
theorem xV:∀ e∈tab,e.2.length≤13∧∀ f∈e.2,f.kinds.length≤13:=by decide
theorem fP {k:Int} {fs:List FT} (h:aN k=some fs):fs.length≤13:=by
 obtain ⟨e,he,_,rfl⟩:=eU h
 exact (xV e he).1
theorem iF (t:VT):1≤nodes t:=by rw [aX];omega
theorem gY {l:List VT} {x:VT} (h:x∈l):nodes x≤aj l:=by
 induction l with
 |nil=>cases h
 |cons a r ih=>
  rw [aj]
  rcases List.mem_cons.1 h with rfl|h
  ·omega
  ·have:=ih h;omega
theorem oN:∀ l:List VT,aj (eT l)≤aj l
 |[]=>Nat.le_refl _
 |a::r=>by
  have:=oN r
  unfold eT
  split
  ·split
   ·rw [aj];omega
   ·rw [aj,aj,aj];omega
  ·rename_i b s h
   rw [h] at this
   simp only [aj] at this ⊢
   omega
theorem lS (k:Int) (l:List VT):nodes (fK k l)=aj l+3:=by
 unfold fK
 simp only [nodes,aj];omega
def Oq (rd:Rd):Prop:=∀ f x y,rd f x= .ok y→nodes y≤30*nodes x
theorem Ot {rd:Rd} (hm:Oq rd) {f:FT} {x y:VT} (h:bA rd f x= .ok y):nodes y≤30*nodes x:=by
 have:=iF x
 unfold bA at h
 split at h
 ·split at h
  ·cases h
  ·cases h
   have:nodes f.dflt=1:=by unfold FT.dflt;simp [nodes,aj]
   omega
 ·split at h
  ·cases h
   have:nodes (gB x)=nodes x+1:=by unfold gB;simp [nodes,aj]
   omega
  ·split at h
   ·exact hm f x y h
   ·cases h
theorem sP {rd:Rd} (hm:Oq rd):∀ {fs:List FT} {g:List VT} {i:Nat} {l:List VT},eD rd fs g i= .ok l→aj l≤30*aj g+fs.length
 |[],g,i,l,h=>by cases h;simp [aj]
 |f::fs,g,i,l,h=>by
  unfold eD at h
  split at h
  ·cases h
  ·rename_i y hy
   split at h
   ·cases h
   ·rename_i r hr
    cases h
    have h2:=sP hm hr
    cases g with
    |nil=>
     have hz:nodes y=1:=by
      unfold bA at hy
      rw [if_pos (show ((([]:List VT).headD ah).kind=0) from rfl)] at hy
      split at hy
      ·cases hy
      ·cases hy;unfold FT.dflt;simp [nodes,aj]
     simp only [List.tail_nil,aj,List.length_cons] at h2 ⊢
     omega
    |cons a b=>
     have h1:=Ot hm hy
     simp only [List.headD_cons,List.tail_cons,aj,List.length_cons] at h1 h2 ⊢
     omega
theorem Iq {rd:Rd} (hm:Oq rd) {v:VT} {k:Int} {l:List VT} (h:bH rd v= .ok (k,l)):aj l≤30*nodes v:=by
 obtain ⟨fs,hk,hf,d,x,h3,h4,h5,h6⟩:=dS h
 have h1:=sP hm h6
 have h2:=fP hf
 have h7:=aX v
 rw [h3] at h7
 have h8:aj [d,x]=nodes d+nodes x:=by simp [aj]
 have h9:=aX x
 have:=iF d
 omega
theorem zL {g:FT→VT→VT} {c:Nat} (hc:1≤c):∀ {fs:List FT} {l:List VT},(∀ (j:Nat) (f:FT) (y:VT),fs[j]? =some f→l[j]? =some y→nodes (g f y)≤c*nodes y)→aj (List.zipWith g fs l)≤c*aj l
 |[],l,_=>by simp [aj]
 |f::fs,[],_=>by simp [aj]
 |f::fs,y::l,h=>by
  have h1:=h 0 f y rfl rfl
  have h2:=zL (g:=g) hc (fs:=fs) (l:=l) fun j f' y' hf hy=>h (j+1) f' y' hf hy
  rw [List.zipWith_cons_cons,aj,aj,Nat.mul_add]
  omega
theorem KP {rd:Rd} (hm:Oq rd) (f:FT) (v:VT):nodes (aT rd f v)≤30*nodes v:=by
 have:=iF v
 have hz:nodes ah=1:=by simp [ah,nodes,aj]
 unfold aT
 split
 ·omega
 ·cases h:rd f v with
  |error e=>show nodes ah≤_;omega
  |ok y=>exact hm f v y h
theorem Ou {rd:Rd} (hm:Oq rd) (k:Int) (l:List VT):nodes (gN rd k l)≤30*aj l+3:=by
 unfold gN
 rw [lS]
 have h1:=oN (List.zipWith (aT rd) ((aN k).getD []) l)
 have h2:=zL (g:=aT rd) (c:=30) (by omega) (fs:=(aN k).getD []) (l:=l) fun j f y _ _=>KP hm f y
 omega
theorem wo {g:FT→VT→VT}:∀ {fs:List FT} {l:List VT},(∀ (j:Nat) (f:FT) (y:VT),fs[j]? =some f→l[j]? =some y→g f y=ah∨g f y=y)→aj (List.zipWith g fs l)≤aj l
 |[],l,_=>by simp [aj]
 |f::fs,[],_=>by simp [aj]
 |f::fs,y::l,h=>by
  have h1:=h 0 f y rfl rfl
  have h2:=wo (g:=g) (fs:=fs) (l:=l) fun j f' y' hf hy=>h (j+1) f' y' hf hy
  have hz:nodes ah=1:=by simp [ah,nodes,aj]
  have:=iF y
  rw [List.zipWith_cons_cons,aj,aj]
  rcases h1 with h1|h1<;>rw [h1]<;>omega
theorem Ov {rd:Rd} (hm:Oq rd) (hp:Plain rd) (hs:Im rd) {v:VT} {k:Int} {l:List VT} (h:bH rd v= .ok (k,l)):nodes (gN rd k l)≤30*nodes v:=by
 obtain ⟨fs,hk,hf,d,x,h3,h4,h5,h6⟩:=dS h
 obtain ⟨hl,hi⟩:=kS h6
 have h1:aj (List.zipWith (aT rd) fs l)≤aj l:=wo fun j f y hj hy=>(qQ hp hs (iW hf (List.mem_of_getElem? hj)) (hi j f y hj hy)).2
 have h2:=oN (List.zipWith (aT rd) fs l)
 have h7:=aX v
 rw [h3] at h7
 have h8:aj [d,x]=nodes d+nodes x:=by simp [aj]
 have h9:=aX x
 have h10:=iF d
 have h11:=sP hm h6
 have h12:=fP hf
 unfold gN
 rw [hf,Option.getD_some,lS]
 omega
theorem Wq:∀ n,Oq (ai n)
 |0=>fun f x y h=>by
  by_cases ht:f.type=102
  ·have h:dh _ _ f x=_:=h
   unfold dh at h
   rw [if_pos ht] at h
   cases h
  ·rw [aV 0 f x ht] at h
   cases h;omega
 |n+1=>fun f x y h=>by
  by_cases ht:f.type=102
  ·have h:dh _ _ f x=_:=h
   unfold dh at h
   rw [if_pos ht] at h
   split at h
   ·cases h
   ·rename_i a ha
    cases h
    exact Ov (Wq n) (aV n) (CK n) ha
  ·rw [aV (n+1) f x ht] at h
   cases h;omega
def LV:Nat:=10000000000000
theorem OL.tight {w:World}:∀ {n:Nat} {v:Value} {ts:List VT} {vs:List Value},OL w n v ts vs→OL w (dH ts+1) v ts vs
 |0,_,_,_,h=>h.elim
 |n+1,v,ts,vs,h=>by
  rcases h with h|⟨g,c,gy,rfl,h2,h3,h4,h5,h6,rfl,h8⟩
  ·exact .inl h
  ·refine .inr ⟨g,c,gy,rfl,h2,h3,h4,h5,h6,rfl,fun i t us ht hu=>?_⟩
   obtain ⟨hf,lv,ha,ho⟩:=h8 i t us ht hu
   have hd:gV t≤dH ts:=by
    have:=List.mem_of_getElem? ht
    clear h2 h3 h4 h5 h6 h8 ha ho ht hu
    induction ts with
    |nil=>cases this
    |cons a r ih=>
     rw [dH]
     rcases List.mem_cons.1 this with rfl|h
     ·omega
     ·have:=ih h;omega
   exact ⟨hf,lv,ha,(OL.tight ho).mono (by rw [←zJ];exact hd)⟩
theorem OL.lv {w:World} {n:Nat} {v:Value} {ts:List VT} {vs:List Value} (h:OL w n v ts vs) (hd:dH ts<LV):OL w LV v ts vs:=h.tight.mono hd
theorem OL.lvN {w:World} {n:Nat} {v:Value} {ts:List VT} {vs:List Value} (h:OL w n v ts vs) (hd:aj ts<LV):OL w LV v ts vs:=h.lv (Nat.lt_of_le_of_lt (qU ts) hd)
abbrev gp:=VT×Value×List Value
def fq (items:List gp):List (VT×Value):=items.map fun x=>(x.1,x.2.1)
def bN (items:List gp):List Value:=(items.map fun x=>x.2.2).flatten
def bC (items:List gp):List VT:=items.map fun x=>x.1
theorem qW (items:List gp):(fq items).length=items.length:=by simp [fq]
theorem gZ {items:List gp} {u:Value}:u∈bN items↔∃ x∈items,u∈x.2.2:=by
 unfold bN
 rw [List.mem_flatten]
 constructor
 ·rintro ⟨l,hl,hu⟩
  obtain ⟨x,hx,rfl⟩:=List.mem_map.1 hl
  exact ⟨x,hx,hu⟩
 ·rintro ⟨x,hx,hu⟩
  exact ⟨_,List.mem_map.2 ⟨x,hx,rfl⟩,hu⟩
structure fI (B:Nat) (T:TypeId) (W:World) (items:List gp) (v:Value) (w:World):Prop where
 below:Below B W w
 Bw:B≤w.heap.size
 row:w.ownsRow B T 5 v items.length (bE (fq items))
 own:∀ x∈items,x.1.bD∧OL w LV x.2.1 x.1.list x.2.2
 blk:ku B w.heap.size (bN items)
 apart:aM (bN items)
 free:∀ u∈bN items,∀ b,u.ownBlock=some b→v.ownBlock≠some b
section
variable {B:Nat} {T:TypeId} {W w w':World} {items:List gp} {v v':Value}
theorem fI.start (w:World):fI w.heap.size T w [] (.slice none 0 0) w:=
 ⟨Below.refl _ _,Nat.le_refl _,World.ownsRow_nil _ _ _ _,(fun x hx=>by cases hx),ku.nil _ _,aM.nil,(fun u hu=>by simp [bN] at hu)⟩
theorem fI.iL (h:fI B T W items v w) {b:Nat} (hb:v.ownBlock=some b):B≤b∧b<w.heap.size:=World.ownsRow.lt h.row b hb
theorem fI.keep (h:fI B T W items v w) (hb:Below w.heap.size w w'):fI B T W items v w':=by
 have hg:w.grownBy w' none:=⟨hb.os,hb.tape,hb.output,hb.size,fun k hk _=>hb.block k hk⟩
 refine ⟨h.below.trans (hb.mono h.Bw),Nat.le_trans h.Bw hb.size,World.ownsRow.kept h.row hg ?_,fun x hx=>⟨(h.own x hx).1,(h.own x hx).2.below hb⟩,h.blk.mono (Nat.le_refl _) hb.size,h.apart,h.free⟩
 cases v.ownBlock with
 |none=>exact .inl rfl
 |some b=>exact .inr (fun e=>by cases e)
theorem fI.form (h:fI B T W items v w):∃ p c,v= .slice p items.length c:=by
 rcases h.row.2 with ⟨rfl,h0⟩|⟨g,c,_,rfl,_⟩
 ·exact ⟨none,0,by rw [h0]⟩
 ·exact ⟨_,c,rfl⟩
theorem fI.push (h:fI B T W items v w) {x:gp} {lo:Nat} (hf:x.1.bD) (ho:OL w LV x.2.1 x.1.list x.2.2) (hbk:ku lo w.heap.size x.2.2) (hap:aM x.2.2) (hlo:∀ u∈bN items,∀ b,u.ownBlock=some b→b<lo) (hv:∀ b,v.ownBlock=some b→b<lo) (hB:B≤lo)
 (hr:w'.ownsRow B T 5 v' (items.length+1) (bE (fq items)++x.1.cells x.2.1)) (hg:w.grownBy w' v.ownBlock) (hat:v'.ownBlock=v.ownBlock∨v'.ownBlock=some w.heap.size):fI B T W (items++[x]) v' w':=by
 have hu:bN (items++[x])=bN items++x.2.2:=by simp [bN]
 have hx:bE (fq (items++[x]))=bE (fq items)++x.1.cells x.2.1:=by simp [bE,fq]
 have hk:∀ {n:Nat} {lv:Value} {ts:List VT} {us:List Value},OL w n lv ts us→(∀ u∈us,∀ b,u.ownBlock=some b→v.ownBlock≠some b)→OL w' n lv ts us:=fun ho hn=>ho.heap hg.size fun u hu b hb=>hg.block b (ho.lt u hu b hb) (fun e=>hn u hu b hb e.symm)
 have hxn:∀ u∈x.2.2,∀ b,u.ownBlock=some b→v.ownBlock≠some b:=fun u hu b hb e=>by have:=hbk u hu b hb;have:=hv b e;omega
 refine ⟨h.below.grown hg h.Bw fun k e=>(h.iL e).1,Nat.le_trans h.Bw hg.size,by rw [hx,List.length_append];exact hr,fun y hy=>?_,?_,?_,fun u hu' b hb=>?_⟩
 ·rcases List.mem_append.1 hy with hy|hy
  ·exact ⟨(h.own y hy).1,hk (h.own y hy).2 fun u hu=>h.free u (gZ.2 ⟨y,hy,hu⟩)⟩
  ·rw [List.mem_singleton.1 hy];exact ⟨hf,hk ho hxn⟩
 ·rw [hu];exact (h.blk.mono (Nat.le_refl _) hg.size).append (hbk.mono hB hg.size)
 ·rw [hu]
  exact List.pairwise_append.2 ⟨h.apart,hap,fun a ha b hb y hy hy'=>by have:=hlo a ha y hy;have:=hbk b hb y hy';omega⟩
 ·rw [hu] at hu'
  have hlt:b<w.heap.size:=by
   rcases List.mem_append.1 hu' with h1|h1
   ·exact (h.blk u h1 b hb).2
   ·exact (hbk u h1 b hb).2
  rcases hat with hat|hat
  ·rw [hat]
   rcases List.mem_append.1 hu' with h1|h1
   ·exact h.free u h1 b hb
   ·exact hxn u h1 b hb
  ·rw [hat];intro e;cases e;omega
theorem Bb {n m c:Nat} {p:Option Addr} {xs:List Value} (h:w.ownsRow B T 5 (.slice p n c) n xs) (hm:m≤n):w.ownsRow B T 5 (.slice p m c) m (xs.take (m*5)):=by
 obtain ⟨hl,h⟩:=h
 refine ⟨by rw [List.length_take];omega,?_⟩
 rcases h with ⟨e,h0⟩|⟨g,cap,cur,e,hb,hg,hnc,hcm,hcs,htk⟩
 ·cases e
  exact .inl ⟨by rw [show m=0 by omega],by omega⟩
 ·cases e
  exact .inr ⟨g,c,cur,rfl,hb,hg,by omega,hcm,hcs,by rw [←htk,List.take_take];congr 1;omega⟩
theorem sQ:∀ (xs:List (VT×Value)) (m:Nat),(bE xs).take (m*5)=bE (xs.take m)
 |[],m=>by simp [bE]
 |x::r,0=>by simp [bE]
 |x::r,m+1=>by
  have ih:=sQ r m
  show ((x.1.cells x.2)++bE r).take ((m+1)*5)=(x.1.cells x.2)++bE (r.take m)
  rw [List.take_append,gQ,show (m+1)*5-5=m*5 by omega,ih,List.take_of_length_le (by rw [gQ];omega)]
theorem fI.cut {p:Option Addr} {n c:Nat} (h:fI B T W items (.slice p n c) w) {m:Nat} (hm:m≤n):fI B T W (items.take m) (.slice p m c) w:=by
 have hn:n=items.length:=by
  obtain ⟨p',c',e⟩:=h.form
  cases e;rfl
 have hsub:∀ u,u∈bN (items.take m)→u∈bN items:=fun u hu=>by
  obtain ⟨x,hx,h⟩:=gZ.1 hu
  exact gZ.2 ⟨x,List.mem_of_mem_take hx,h⟩
 have hr:=h.row
 rw [←hn] at hr
 have hr2:=Bb hr hm
 rw [sQ] at hr2
 have hl:(items.take m).length=m:=by rw [List.length_take];omega
 refine ⟨h.below,h.Bw,?_,fun x hx=>h.own x (List.mem_of_mem_take hx),fun u hu=>h.blk u (hsub u hu),?_,fun u hu=>?_⟩
 ·rw [hl,fq,List.map_take]
  exact hr2
 ·unfold bN
  rw [List.map_take]
  have:(items.map fun x=>x.2.2).flatten=((items.map fun x=>x.2.2).take m).flatten++((items.map fun x=>x.2.2).drop m).flatten:=by rw [←List.flatten_append,List.take_append_drop]
  have hap:=h.apart
  unfold bN at hap
  rw [this] at hap
  exact (List.pairwise_append.1 hap).1
 ·have e:(Value.slice p m c).ownBlock=(Value.slice p n c).ownBlock:=by cases p<;>rfl
  rw [e]
  exact h.free u (hsub u hu)
theorem OL.Ii {lo:Nat} (hr:w.ownsRow lo T 5 v items.length (bE (fq items))) (ho:∀ x∈items,x.1.bD∧OL w LV x.2.1 x.1.list x.2.2) (hm:items.length≤maxLen):OL w (LV+1) v (bC items) (bN items++[v]):=by
 rcases hr.2 with ⟨rfl,h0⟩|⟨g,cap,cur,rfl,hb,hg,hnc,hcm,hcs,htk⟩
 ·have:items=[]:=List.eq_nil_of_length_eq_zero h0
  subst this
  exact .inl ⟨rfl,rfl,rfl⟩
 ·have hlen:(bC items).length=items.length:=by simp [bC]
  refine .inr ⟨g,cap,items.map fun x=>x.2.2,by rw [hlen],(Array.getElem?_eq_some_iff.1 hg).1,by rw [hlen];exact hnc,by rw [hlen];exact hm,fun j hj=>⟨?_,by unfold World.frozen?;rw [hg];simp⟩,by rw [hlen];simp,rfl,fun i t us ht hu=>?_⟩
  ·rw [Nat.zero_add]
   unfold World.cell?
   rw [hg]
   simp
   omega
  ·unfold bC at ht
   rw [List.getElem?_map] at ht hu
   obtain ⟨x,hx,rfl⟩:=Option.map_eq_some_iff.1 ht
   rw [hx] at hu
   cases hu
   obtain ⟨hf,ho'⟩:=ho x (List.mem_of_getElem? hx)
   have hi:=(List.getElem?_eq_some_iff.1 hx).1
   have hxx:(fq items)[i]? =some (x.1,x.2.1):=by unfold fq;rw [List.getElem?_map,hx];rfl
   have k:∀ j u,j<5→(x.1.cells x.2.1)[j]? =some u→w.cell? ⟨g,i*5+j,none⟩=some u:=fun j u hj hu=>by
    have:=mZ hxx j hj
    rw [←htk,List.getElem?_take_of_lt (by omega),Array.getElem?_toList,hu] at this
    unfold World.cell?
    rw [hg]
    simpa using this
   exact ⟨hf,x.2.1,⟨k 0 _ (by omega) rfl,k 1 _ (by omega) rfl,k 2 _ (by omega) rfl,k 3 _ (by omega) rfl,k 4 _ (by omega) rfl⟩,ho'⟩
theorem fI.at (h:fI B T W items v w) {i:Nat} {x:gp} (hx:items[i]? =some x):∃ g c,v= .slice (some ⟨g,0,none⟩) items.length c∧pO w g (i*5) x.1 x.2.1:=by
 have hi:=(List.getElem?_eq_some_iff.1 hx).1
 rcases h.row.2 with ⟨rfl,h0⟩|⟨g,cap,cur,rfl,hb,hg,hnc,hcm,hcs,htk⟩
 ·omega
 ·have hxx:(fq items)[i]? =some (x.1,x.2.1):=by unfold fq;rw [List.getElem?_map,hx];rfl
  have k:∀ j u,j<5→(x.1.cells x.2.1)[j]? =some u→w.cell? ⟨g,i*5+j,none⟩=some u:=fun j u hj hu=>by
   have:=mZ hxx j hj
   rw [←htk,List.getElem?_take_of_lt (by omega),Array.getElem?_toList,hu] at this
   unfold World.cell?
   rw [hg]
   simpa using this
  exact ⟨g,cap,rfl,k 0 _ (by omega) rfl,k 1 _ (by omega) rfl,k 2 _ (by omega) rfl,k 3 _ (by omega) rfl,k 4 _ (by omega) rfl⟩
end
theorem qX:∀ (l:List VT) (m:Nat),m≤l.length→(∀ (i:Nat) (x:VT),m≤i→l[i]? =some x→x.kind=0)→(m=0∨∃ x,l[m-1]? =some x∧x.kind≠0)→eT l=l.take m
 |[],m,h,_,_=>by simp at h;subst h;rfl
 |a::r,0,_,h,_=>by
  have ih:=qX r 0 (Nat.zero_le _) (fun i x _ hx=>h (i+1) x (Nat.zero_le _) (by simpa using hx)) (.inl rfl)
  have ha:=h 0 a (Nat.zero_le _) rfl
  unfold eT
  rw [ih]
  simp [ha]
 |a::r,m+1,hm,h,hk=>by
  have hm':m≤r.length:=by simpa using hm
  have h':∀ (i:Nat) (x:VT),m≤i→r[i]? =some x→x.kind=0:=fun i x hi hx=>h (i+1) x (by omega) (by simpa using hx)
  by_cases h0:m=0
  ·subst h0
   have ih:=qX r 0 (Nat.zero_le _) h' (.inl rfl)
   obtain ⟨x,hx,hxk⟩:=hk.resolve_left (by omega)
   simp at hx
   subst hx
   unfold eT
   rw [ih]
   simp [hxk]
  ·obtain ⟨x,hx,hxk⟩:=hk.resolve_left (by omega)
   have hx':r[m-1]? =some x:=by
    rw [show m+1-1=(m-1)+1 by omega,List.getElem?_cons_succ] at hx
    exact hx
   have ih:=qX r m hm' h' (.inr ⟨x,hx',hxk⟩)
   unfold eT
   rw [ih,List.take_succ_cons]
   cases r with
   |nil=>simp at hx'
   |cons b s=>
    obtain ⟨m',rfl⟩:∃ m',m=m'+1:=⟨m-1,by omega⟩
    rw [List.take_succ_cons]
section
variable {B:Nat} {T T2:TypeId} {W w:World} {items:List gp} {v:Value}
theorem fI.view {p:Option Addr} {n c:Nat} (h:fI B T W items (.slice p n c) w):n=items.length∧∀ (i:Nat) (x:VT×Value),(fq items)[i]? =some x→(∃ q n d,x.2= .slice q n d)∧∃ b off,p=some ⟨b,off,none⟩∧pO w b (off+i*5) x.1 x.2:=by
 have hn:n=items.length:=by
  obtain ⟨p',c',e⟩:=h.form
  cases e;rfl
 refine ⟨hn,fun i x hx=>?_⟩
 unfold fq at hx
 rw [List.getElem?_map] at hx
 obtain ⟨y,hy,rfl⟩:=Option.map_eq_some_iff.1 hx
 obtain ⟨g,c',e,ha⟩:=h.at hy
 obtain ⟨q,d,e2⟩:=(h.own y (List.mem_of_getElem? hy)).2.slice
 refine ⟨⟨q,_,d,e2⟩,g,0,by cases e;rfl,by rw [Nat.zero_add];exact ha⟩
theorem fI.cap {p:Option Addr} {n c:Nat} (h:fI B T W items (.slice p n c) w):n≤c:=by
 have hn:=(h.view).1
 rcases h.row.2 with ⟨e,h0⟩|⟨g,cap,cur,e,hb,hg,hnc,hcm,hcs,htk⟩
 ·omega
 ·cases e;omega
theorem KQ {lo n:Nat} {xs:List Value} (h:w.ownsRow lo T 5 v n xs):∃ p c,v= .slice p n c:=by
 rcases h.2 with ⟨rfl,h0⟩|⟨g,c,_,rfl,_⟩
 ·exact ⟨none,0,by rw [h0]⟩
 ·exact ⟨_,c,rfl⟩
theorem KR {wr w5:World} {b:Nat} {v5:Value} {k:Int} {vs:List Value} {cs:Array Value} (hP:fI B T W items v wr) (hb5:Below wr.heap.size wr w5) (hr:w5.ownsRow wr.heap.size T 5 v5 items.length (bE (fq items))) (hl:items.length≤13) (hk:0≤k∧k≤120) (hn:aj (bC items)≤100000000000) (jy:b<B) (hcs:cs= #[.int .i64 5,.int .u64 k,.string fE,.slice none 0 0,.int .i64 0,.int .i64 21,.int .u64 0,.string fE,v5,.int .i64 0]) {X:World} (hX:(w5.alloc (.cells cs T2)).setCells b 0 vs=X):
 ∃ us,OL X LV (.slice (some ⟨w5.heap.size,0,none⟩) 2 2) [.mk 5 k fE 0 [],.mk 21 0 fE 0 (bC items)] us∧ku B X.heap.size us∧aM us:=by
 subst hX hcs
 have hBw:=hP.Bw
 have oH:=hb5.size
 obtain ⟨hx,hz,hba⟩:=aH (w:=w5) (cs:=[.int .i64 5,.int .u64 k,.string fE,.slice none 0 0,.int .i64 0,.int .i64 21,.int .u64 0,.string fE,v5,.int .i64 0]) (T:=T2) rfl
 have hx2:=hx.heap (w':=(w5.alloc (.cells [.int .i64 5,.int .u64 k,.string fE,.slice none 0 0,.int .i64 0,.int .i64 21,.int .u64 0,.string fE,v5,.int .i64 0].toArray T2)).setCells b 0 vs) (aA (by omega) 0 vs)
 have hz2:((w5.alloc (.cells [.int .i64 5,.int .u64 k,.string fE,.slice none 0 0,.int .i64 0,.int .i64 21,.int .u64 0,.string fE,v5,.int .i64 0].toArray T2)).setCells b 0 vs).heap.size=w5.heap.size+1:=by rw [aC];exact hz
 have o5:OL w5 (LV+1) v5 (bC items) (bN items++[v5]):=OL.Ii hr (fun x hx=>⟨(hP.own x hx).1,(hP.own x hx).2.below hb5⟩) (by unfold maxLen;omega)
 have kv5:∀ c,v5.ownBlock=some c→wr.heap.size≤c∧c<w5.heap.size:=fun c hc=>World.ownsRow.lt hr c hc
 have bk5:ku B w5.heap.size (bN items++[v5]):=(hP.blk.mono (Nat.le_refl _) oH).append fun u hu c hc=>by rw [List.mem_singleton.1 hu] at hc;have:=kv5 c hc;omega
 have ap5:aM (bN items++[v5]):=hP.apart.snoc fun u hu c hc e=>by have:=hP.blk u hu c hc;have:=kv5 c e;omega
 have o6:OL ((w5.alloc (.cells [.int .i64 5,.int .u64 k,.string fE,.slice none 0 0,.int .i64 0,.int .i64 21,.int .u64 0,.string fE,v5,.int .i64 0].toArray T2)).setCells b 0 vs) (LV+1) v5 (bC items) (bN items++[v5]):=
  (o5.below hba).heap (by omega) fun u hu c hc=>aA (by have:=bk5 u hu c hc;omega) 0 vs
 refine ⟨[[Value.slice none 0 0],bN items++[v5]].flatten++[.slice (some ⟨w5.heap.size,0,none⟩) 2 2],OL.lvN (n:=LV+2) (.inr ⟨w5.heap.size,2,[[.slice none 0 0],bN items++[v5]],rfl,by omega,Nat.le_refl _,by show 2≤maxLen;unfold maxLen;omega,hx2.2,rfl,rfl,fun i t us ht hu=>?_⟩) ?_,?_,?_⟩
 ·match i,ht,hu with
  |0,ht,hu=>
   cases ht;cases hu
   exact ⟨⟨by show _≤(5:Int);omega,by show (5:Int)≤_;omega,by show 0≤k;omega,by show k≤_;omega,by show _≤(0:Int);omega,by show (0:Int)≤_;omega,by show fE.size≤_;decide⟩,.slice none 0 0,⟨hx2.cell (j:=0) rfl,hx2.cell (j:=1) rfl,hx2.cell (j:=2) rfl,hx2.cell (j:=3) rfl,hx2.cell (j:=4) rfl⟩,OL.nil _ LV⟩
  |1,ht,hu=>
   cases ht;cases hu
   exact ⟨⟨by show _≤(21:Int);omega,by show (21:Int)≤_;omega,by show (0:Int)≤0;omega,by show (0:Int)≤_;omega,by show _≤(0:Int);omega,by show (0:Int)≤_;omega,by show fE.size≤_;decide⟩,v5,⟨hx2.cell (j:=5) rfl,hx2.cell (j:=6) rfl,hx2.cell (j:=7) rfl,hx2.cell (j:=8) rfl,hx2.cell (j:=9) rfl⟩,o6⟩
  |i+2,ht,hu=>simp at ht
 ·have:aj [.mk 5 k fE 0 [],.mk 21 0 fE 0 (bC items)]=aj (bC items)+2:=by simp [aj,nodes];omega
  unfold LV
  omega
 ·have e:[[Value.slice none 0 0],bN items++[v5]].flatten= .slice none 0 0::(bN items++[v5]):=by simp
  rw [e,hz2]
  exact ((ku.none _ _).append (bk5.mono (Nat.le_refl _) (by omega))).append fun u hu c hc=>by rw [List.mem_singleton.1 hu] at hc;simp [Value.ownBlock] at hc;omega
 ·have e:[[Value.slice none 0 0],bN items++[v5]].flatten=[.slice none 0 0]++(bN items++[v5]):=by simp
  rw [e]
  refine aM.snoc ((aM.one _).append' ap5 (lo:=B) (hi:=B) (fun u hu c hc=>by rw [List.mem_singleton.1 hu] at hc;simp [Value.ownBlock] at hc) bk5 (.inl (Nat.le_refl _))) fun u hu c hc e=>?_
  simp [Value.ownBlock] at e
  rcases List.mem_append.1 hu with hu|hu
  ·rw [List.mem_singleton.1 hu] at hc;simp [Value.ownBlock] at hc
  ·have:=bk5 u hu c hc;omega
end
def CR (rd:Rd):Prop:=∀ f x y,rd f x= .ok y→nodes y≤2*nodes x
theorem lT:nodes ah=1:=by simp [ah,nodes,aj]
theorem CS (f:FT):nodes f.dflt=1:=by unfold FT.dflt;simp [nodes,aj]
theorem Ir (x:VT):nodes (gB x)=nodes x+1:=by unfold gB;simp [nodes,aj]
theorem sS {rd:Rd} (hm:CR rd) {f:FT} {x y:VT} (h:bA rd f x= .ok y):nodes y≤2*nodes x∧(x.kind=0→y=f.dflt):=by
 have:=iF x
 unfold bA at h
 split at h
 ·split at h
  ·cases h
  ·cases h
   exact ⟨by rw [CS];omega,fun _=>rfl⟩
 ·rename_i hk
  refine ⟨?_,fun h=>absurd h hk⟩
  split at h
  ·cases h
   rw [Ir];omega
  ·split at h
   ·exact hm f x y h
   ·cases h
theorem xW {rd:Rd} (hm:CR rd):∀ {fs:List FT} {g:List VT} {i:Nat} {l:List VT},eD rd fs g i= .ok l→aj l≤2*aj g+fs.length
 |[],g,i,l,h=>by cases h;simp [aj]
 |f::fs,g,i,l,h=>by
  unfold eD at h
  split at h
  ·cases h
  ·rename_i y hy
   split at h
   ·cases h
   ·rename_i r hr
    cases h
    have h2:=xW hm hr
    cases g with
    |nil=>
     have hz:nodes y=1:=by rw [(sS hm hy).2 rfl,CS]
     simp only [List.tail_nil,aj,List.length_cons] at h2 ⊢
     omega
    |cons a b=>
     have h1:=(sS hm hy).1
     simp only [List.headD_cons,List.tail_cons,aj,List.length_cons] at h1 h2 ⊢
     omega
theorem BI (a:VT) (r:List VT):aj (eT (a::r))≤nodes a+aj (eT r):=by
 rw [eT]
 split
 ·split<;>simp [aj]
 ·rename_i h;rw [h];simp [aj]
theorem CU {rd:Rd} (hm:CR rd) (hp:Plain rd) (hs:Im rd):∀ {fs:List FT} {g:List VT} {i:Nat} {l:List VT},(∀ f∈fs,fM f=true)→eD rd fs g i= .ok l→aj (eT (List.zipWith (aT rd) fs l))≤2*aj g∧(g=[]→eT (List.zipWith (aT rd) fs l)=[])
 |[],g,i,l,_,h=>by cases h;simp [eT,aj]
 |f::fs,g,i,l,hg,h=>by
  unfold eD at h
  split at h
  ·cases h
  ·rename_i y hy
   split at h
   ·cases h
   ·rename_i r hr
    cases h
    have h2:=CU hm hp hs (fun f' hf=>hg f' (List.mem_cons_of_mem _ hf)) hr
    have h3:=qQ hp hs (hg f List.mem_cons_self) hy
    have h4:=sS hm hy
    have hz:(g.headD ah).kind=0→aT rd f y=ah:=fun hk=>by rw [h4.2 hk];unfold aT;rw [if_pos (.inr (xP _))]
    rw [List.zipWith_cons_cons]
    cases g with
    |nil=>
     have h5:=h2.2 rfl
     have e:eT (aT rd f y::List.zipWith (aT rd) fs r)=[]:=by
      rw [eT,h5,hz rfl];rfl
     exact ⟨by rw [e];simp [aj],fun _=>e⟩
    |cons a b=>
     refine ⟨?_,fun h=>by cases h⟩
     have h5:=BI (aT rd f y) (List.zipWith (aT rd) fs r)
     have h6:nodes (aT rd f y)≤2*nodes a:=by
      have:=iF a
      have h7:=h4.1
      simp only [List.headD_cons] at h7
      rcases h3.2 with e|e<;>rw [e]
      ·rw [lT];omega
      ·exact h7
     have h7:=h2.1
     simp only [List.tail_cons,aj] at h7 ⊢
     omega
theorem KS {rd:Rd} (hm:CR rd) (hp:Plain rd) (hs:Im rd) {v:VT} {k:Int} {l:List VT} (h:bH rd v= .ok (k,l)):nodes (gN rd k l)≤2*nodes v:=by
 obtain ⟨fs,hk,hf,d,x,h3,h4,h5,h6⟩:=dS h
 have h1:=(CU hm hp hs (fun f hfm=>iW hf hfm) h6).1
 have h7:=aX v
 rw [h3] at h7
 have h8:aj [d,x]=nodes d+nodes x:=by simp [aj]
 have h9:=aX x
 have h10:=iF d
 unfold gN
 rw [hf,Option.getD_some,lS]
 omega
theorem wu {rd:Rd} (hm:CR rd) {v:VT} {k:Int} {l:List VT} (h:bH rd v= .ok (k,l)):aj l+13≤2*(nodes v+13):=by
 obtain ⟨fs,hk,hf,d,x,h3,h4,h5,h6⟩:=dS h
 have h1:=xW hm h6
 have h2:=fP hf
 have h7:=aX v
 rw [h3] at h7
 have h8:aj [d,x]=nodes d+nodes x:=by simp [aj]
 have h9:=aX x
 have:=iF d
 omega
theorem zM:∀ n,CR (ai n)
 |0=>fun f x y h=>by
  by_cases ht:f.type=102
  ·have h:dh _ _ f x=_:=h
   unfold dh at h
   rw [if_pos ht] at h
   cases h
  ·rw [aV 0 f x ht] at h
   cases h;omega
 |n+1=>fun f x y h=>by
  by_cases ht:f.type=102
  ·have h:dh _ _ f x=_:=h
   unfold dh at h
   rw [if_pos ht] at h
   split at h
   ·cases h
   ·rename_i a ha
    obtain ⟨k,l⟩:=a
    cases h
    exact KS (zM n) (aV n) (CK n) ha
  ·rw [aV (n+1) f x ht] at h
   cases h;omega
theorem xX {rd:Rd} (hs:Im rd) {v:VT} {k:Int} {l:List VT} {fs:List FT} (h:bH rd v= .ok (k,l)) (hf:aN k=some fs):l.length=fs.length∧∀ (j:Nat) (f:FT) (y:VT),fs[j]? =some f→l[j]? =some y→y.kind=0∨mM y f.dflt=true∨bF f y=true:=by
 obtain ⟨fs',_,hf',d,x,_,_,_,h6⟩:=dS h
 rw [hf'] at hf
 cases hf
 obtain ⟨hl,hi⟩:=kS h6
 refine ⟨hl,fun j f y hj hy=>?_⟩
 have:=hi j f y hj hy
 unfold bA at this
 split at this
 ·split at this
  ·cases this
  ·cases this;exact .inr (.inl (xP _))
 ·rename_i hk
  split at this
  ·rename_i ht
   cases this;exact .inr (.inr (CJ ht.1 _))
  ·split at this
   ·rename_i hw
    exact .inr (.inr (hs f _ y hk hw this).2.1)
   ·cases this
theorem kV (k:Int) (l:List VT):(fK k l).bD:=⟨by show _≤(24:Int);omega,by show (24:Int)≤_;omega,by show (0:Int)≤0;omega,by show (0:Int)≤_;omega,by show _≤(0:Int);omega,by show (0:Int)≤_;omega,by show fE.size≤_;decide⟩
theorem xY {rd:Rd} {fs:List FT} {l:List VT} {j:Nat} {f:FT} {v:VT} (hf:fs[j]? =some f) (hv:l[j]? =some v):dI rd (fs.drop j) (l.drop j)=if gX rd f v≠0 then gX rd f v else dI rd (fs.drop (j+1)) (l.drop (j+1)):=by
 obtain ⟨h1,h1'⟩:=List.getElem?_eq_some_iff.1 hf
 obtain ⟨h2,h2'⟩:=List.getElem?_eq_some_iff.1 hv
 rw [List.drop_eq_getElem_cons h1,List.drop_eq_getElem_cons h2,h1',h2']
 rfl
theorem sU {rd:Rd} (hm:CR rd) (k:Int) (l:List VT):nodes (gN rd k l)≤2*aj l+3:=by
 unfold gN
 rw [lS]
 have h1:=oN (List.zipWith (aT rd) ((aN k).getD []) l)
 have h2:=zL (g:=aT rd) (c:=2) (by omega) (fs:=(aN k).getD []) (l:=l) fun j f y _ _=>by
  have:=iF y
  unfold aT
  split
  ·rw [lT];omega
  ·cases h:rd f y with
   |error e=>show nodes ah≤_;rw [lT];omega
   |ok z=>exact hm f y z h
 omega
def bu (P:Nat→Prop) (w:World):Nat→Value→List VT→Prop
 |0,_,_=>False
 |n+1,v,ts=>(ts=[]∧∃ p c,v= .slice p 0 c)∨
   ∃ b off c,v= .slice (some ⟨b,off,none⟩) ts.length c∧P b∧b<w.heap.size∧ts.length≤maxLen∧∀ i t,ts[i]? =some t→t.bD∧∃ lv,pO w b (off+i*5) t lv∧bu P w n lv t.list
section
variable {w w':World} {P Q:Nat→Prop}
theorem bu.heap (hz:w.heap.size≤w'.heap.size) (he:∀ b,P b→b<w.heap.size→w'.heap[b]? =w.heap[b]?):∀ {n:Nat} {v:Value} {ts:List VT},bu P w n v ts→bu P w' n v ts
 |0,_,_,h=>h
 |n+1,v,ts,h=>by
  rcases h with h|⟨b,off,c,h1,h2,h3,h4,h5⟩
  ·exact .inl h
  ·exact .inr ⟨b,off,c,h1,h2,by omega,h4,fun i t ht=>let ⟨hf,lv,ha,hl⟩:=h5 i t ht;⟨hf,lv,ha.heap (he b h2 h3),bu.heap hz he hl⟩⟩
theorem bu.weak (hPQ:∀ b,P b→b<w.heap.size→Q b):∀ {n:Nat} {v:Value} {ts:List VT},bu P w n v ts→bu Q w n v ts
 |0,_,_,h=>h
 |n+1,v,ts,h=>by
  rcases h with h|⟨b,off,c,h1,h2,h3,h4,h5⟩
  ·exact .inl h
  ·exact .inr ⟨b,off,c,h1,hPQ b h2 h3,h3,h4,fun i t ht=>let ⟨hf,lv,ha,hl⟩:=h5 i t ht;⟨hf,lv,ha,bu.weak hPQ hl⟩⟩
theorem bu.mono:∀ {n m:Nat} {v:Value} {ts:List VT},n≤m→bu P w n v ts→bu P w m v ts
 |0,_,_,_,_,h=>h.elim
 |n+1,0,_,_,hn,_=>by omega
 |n+1,m+1,v,ts,hn,h=>by
  rcases h with h|⟨b,off,c,h1,h2,h3,h4,h5⟩
  ·exact .inl h
  ·exact .inr ⟨b,off,c,h1,h2,h3,h4,fun i t ht=>let ⟨hf,lv,ha,hl⟩:=h5 i t ht;⟨hf,lv,ha,bu.mono (by omega) hl⟩⟩
theorem bu.vX:∀ {n:Nat} {v:Value} {ts:List VT},bu P w n v ts→bR w.heap.size w n v ts
 |0,_,_,h=>h
 |n+1,v,ts,h=>by
  rcases h with h|⟨b,off,c,h1,h2,h3,h4,h5⟩
  ·exact .inl h
  ·exact .inr ⟨b,off,c,h1,h3,h4,fun i t ht=>let ⟨hf,lv,ha,hl⟩:=h5 i t ht;⟨hf,lv,ha,bu.vX hl⟩⟩
theorem bu.slice {n:Nat} {v:Value} {ts:List VT} (h:bu P w n v ts):∃ p c,v= .slice p ts.length c:=h.vX.slice
theorem bu.below {n:Nat} {v:Value} {ts:List VT} (h:bu P w n v ts) (hb:Below w.heap.size w w'):bu P w' n v ts:=h.heap hb.size fun b _ hlt=>hb.block b hlt
theorem bu.nil (n:Nat) (p:Option Addr) (c:Nat):bu P w (n+1) (.slice p 0 c) []:= .inl ⟨rfl,p,c,rfl⟩
theorem Gi:∀ {items:List (VT×Value)},(∀ x∈items,∃ M,bu P w M x.2 x.1.list)→∃ M,∀ x∈items,bu P w M x.2 x.1.list
 |[],_=>⟨0,fun x hx=>by cases hx⟩
 |a::r,h=>by
  obtain ⟨M,hM⟩:=h a List.mem_cons_self
  obtain ⟨K,hK⟩:=Gi (items:=r) fun x hx=>h x (List.mem_cons_of_mem _ hx)
  refine ⟨max M K,fun x hx=>?_⟩
  rcases List.mem_cons.1 hx with rfl|hx
  ·exact hM.mono (by omega)
  ·exact (hK x hx).mono (by omega)
end
structure mG (B:Nat) (T:TypeId) (P:Nat→Prop) (W:World) (items:List (VT×Value)) (v:Value) (w:World):Prop where
 below:Below B W w
 Bw:B≤w.heap.size
 row:w.ownsRow B T 5 v items.length (bE items)
 own:∀ x∈items,x.1.bD∧∃ M,bu (fun b=>P b∧v.ownBlock≠some b) w M x.2 x.1.list
section
variable {B:Nat} {T:TypeId} {P:Nat→Prop} {W w w':World} {items:List (VT×Value)} {v v':Value}
theorem mG.start (w:World):mG w.heap.size T P w [] (.slice none 0 0) w:=
 ⟨Below.refl _ _,Nat.le_refl _,World.ownsRow_nil _ _ _ _,(fun x hx=>by cases hx)⟩
theorem mG.iL (h:mG B T P W items v w) {b:Nat} (hb:v.ownBlock=some b):B≤b∧b<w.heap.size:=World.ownsRow.lt h.row b hb
theorem mG.keep (h:mG B T P W items v w) (hb:Below w.heap.size w w'):mG B T P W items v w':=by
 have hg:w.grownBy w' none:=⟨hb.os,hb.tape,hb.output,hb.size,fun k hk _=>hb.block k hk⟩
 refine ⟨h.below.trans (hb.mono h.Bw),Nat.le_trans h.Bw hb.size,World.ownsRow.kept h.row hg ?_,fun x hx=>⟨(h.own x hx).1,let ⟨M,hM⟩:=(h.own x hx).2;⟨M,hM.below hb⟩⟩⟩
 cases v.ownBlock with
 |none=>exact .inl rfl
 |some b=>exact .inr (fun e=>by cases e)
theorem mG.form (h:mG B T P W items v w):∃ p c,v= .slice p items.length c:=by
 rcases h.row.2 with ⟨rfl,h0⟩|⟨g,c,_,rfl,_⟩
 ·exact ⟨none,0,by rw [h0]⟩
 ·exact ⟨_,c,rfl⟩
theorem mG.away (h:mG B T P W items v w) {P0:Nat→Prop} {lo n:Nat} {lv:Value} {ts:List VT} (hl:bu P0 w n lv ts) (hP:∀ b,P0 b→b<w.heap.size→P b∧(b<B∨lo≤b)) (hv:∀ b,v.ownBlock=some b→b<lo):bu (fun b=>P b∧v.ownBlock≠some b) w n lv ts:=
 hl.weak fun b hb hlt=>⟨(hP b hb hlt).1,fun e=>by have:=hv b e;have:=(h.iL e).1;rcases (hP b hb hlt).2 with h|h<;>omega⟩
theorem mG.push (h:mG B T P W items v w) {x:VT×Value} {n:Nat} (hf:x.1.bD) (ho:bu (fun b=>P b∧v.ownBlock≠some b) w n x.2 x.1.list)
 (hr:w'.ownsRow B T 5 v' (items.length+1) (bE items++x.1.cells x.2)) (hg:w.grownBy w' v.ownBlock) (hat:v'.ownBlock=v.ownBlock∨v'.ownBlock=some w.heap.size):mG B T P W (items++[x]) v' w':=by
 have hx:bE (items++[x])=bE items++x.1.cells x.2:=by simp [bE]
 have hk:∀ {n:Nat} {lv:Value} {ts:List VT},bu (fun b=>P b∧v.ownBlock≠some b) w n lv ts→bu (fun b=>P b∧v'.ownBlock≠some b) w' n lv ts:=fun ho=>by
  have h1:=ho.weak (Q:=fun b=>(P b∧v.ownBlock≠some b)∧v'.ownBlock≠some b) fun b hb hlt=>⟨hb,by
   rcases hat with e|e
   ·rw [e];exact hb.2
   ·rw [e];intro e2;cases e2;omega⟩
  have h2:=h1.heap (w':=w') hg.size fun b hb hlt=>hg.block b hlt (fun e=>hb.1.2 e.symm)
  exact h2.weak fun b hb _=>⟨hb.1.1,hb.2⟩
 refine ⟨h.below.grown hg h.Bw fun k e=>(h.iL e).1,Nat.le_trans h.Bw hg.size,by rw [hx,List.length_append];exact hr,fun y hy=>?_⟩
 rcases List.mem_append.1 hy with hy|hy
 ·obtain ⟨M,hM⟩:=(h.own y hy).2
  exact ⟨(h.own y hy).1,M,hk hM⟩
 ·rw [List.mem_singleton.1 hy];exact ⟨hf,n,hk ho⟩
theorem mG.cut {p:Option Addr} {n c:Nat} (h:mG B T P W items (.slice p n c) w) {m:Nat} (hm:m≤n):mG B T P W (items.take m) (.slice p m c) w:=by
 have hn:n=items.length:=by
  obtain ⟨p',c',e⟩:=h.form
  cases e;rfl
 have hr:=h.row
 rw [←hn] at hr
 have hr2:=Bb hr hm
 rw [sQ] at hr2
 have hl:(items.take m).length=m:=by rw [List.length_take];omega
 have e:(Value.slice p m c).ownBlock=(Value.slice p n c).ownBlock:=by cases p<;>rfl
 refine ⟨h.below,h.Bw,by rw [hl];exact hr2,fun x hx=>?_⟩
 rw [e]
 exact h.own x (List.mem_of_mem_take hx)
theorem mG.at (h:mG B T P W items v w) {i:Nat} {x:VT×Value} (hx:items[i]? =some x):∃ g c,v= .slice (some ⟨g,0,none⟩) items.length c∧pO w g (i*5) x.1 x.2∧B≤g∧g<w.heap.size:=by
 have hi:=(List.getElem?_eq_some_iff.1 hx).1
 rcases h.row.2 with ⟨rfl,h0⟩|⟨g,cap,cur,rfl,hb,hg,hnc,hcm,hcs,htk⟩
 ·omega
 ·have k:∀ j u,j<5→(x.1.cells x.2)[j]? =some u→w.cell? ⟨g,i*5+j,none⟩=some u:=fun j u hj hu=>by
   have:=mZ hx j hj
   rw [←htk,List.getElem?_take_of_lt (by omega),Array.getElem?_toList,hu] at this
   unfold World.cell?
   rw [hg]
   simpa using this
  exact ⟨g,cap,rfl,⟨k 0 _ (by omega) rfl,k 1 _ (by omega) rfl,k 2 _ (by omega) rfl,k 3 _ (by omega) rfl,k 4 _ (by omega) rfl⟩,hb,(Array.getElem?_eq_some_iff.1 hg).1⟩
theorem mG.vX (h:mG B T P W items v w) (hP:∀ b,B≤b→P b) (hm:items.length≤maxLen):∃ M,bu P w M v (items.map (·.1)):=by
 obtain ⟨M,hM⟩:=Gi fun x hx=>let ⟨M,hM⟩:=(h.own x hx).2;⟨M,hM.weak (Q:=P) fun b hb _=>hb.1⟩
 refine ⟨M+1,?_⟩
 cases items with
 |nil=>
  obtain ⟨p,c,rfl⟩:=h.form
  exact .inl ⟨rfl,p,c,rfl⟩
 |cons a r=>
  obtain ⟨g,c,rfl, -,hg1,hg2⟩:=h.at (i:=0) (x:=a) rfl
  refine .inr ⟨g,0,c,by rw [List.length_map],hP g hg1,hg2,by rw [List.length_map];exact hm,fun i t ht=>?_⟩
  rw [List.getElem?_map] at ht
  obtain ⟨x,hx,rfl⟩:=Option.map_eq_some_iff.1 ht
  obtain ⟨g',c',e,ha, -, -⟩:=h.at hx
  cases e
  exact ⟨(h.own x (List.mem_of_getElem? hx)).1,x.2,by rw [Nat.zero_add];exact ha,hM x (List.mem_of_getElem? hx)⟩
theorem mG.packed {T2:TypeId} {b:Nat} {vs:List Value} {k:Int} {cs:Array Value} {X:World} (h:mG B T P W items v w) (hP:∀ b',B≤b'→P b') (hb:¬P b) (hm:items.length≤maxLen) (hk:0≤k∧k≤120)
 (hcs:cs= #[.int .i64 5,.int .u64 k,.string fE,.slice none 0 0,.int .i64 0,.int .i64 21,.int .u64 0,.string fE,v,.int .i64 0]) (hX:(w.alloc (.cells cs T2)).setCells b 0 vs=X):
 ∃ M,bu P X M (.slice (some ⟨w.heap.size,0,none⟩) 2 2) [.mk 5 k fE 0 [],.mk 21 0 fE 0 (items.map (·.1))]:=by
 obtain ⟨M,hM⟩:=h.vX hP hm
 have FD:=hP _ h.Bw
 have hne:w.heap.size≠b:=fun e=>hb (e▸FD)
 have h1:(w.alloc (.cells cs T2)).heap[w.heap.size]? =some (.cells cs T2 (0,0)):=heap_alloc_new _ _
 have hz1:(w.alloc (.cells cs T2)).heap.size=w.heap.size+1:=aO _ _
 have hzX:X.heap.size=w.heap.size+1:=by rw [←hX,aC];exact hz1
 have h2:X.heap[w.heap.size]? =some (.cells cs T2 (0,0)):=by rw [←hX,aA hne];exact h1
 have hc:∀ j u,cs[j]? =some u→X.cell? ⟨w.heap.size,j,none⟩=some u:=fun j u hu=>by
  unfold World.cell?
  rw [h2]
  simpa using hu
 have hl:bu P X M v (items.map (·.1)):=by
  have hbl:Below w.heap.size w (w.alloc (.cells cs T2)):=(Below.refl _ _).alloc (Nat.le_refl _) _
  rw [←hX]
  exact (hM.below hbl).heap (by rw [aC];exact Nat.le_refl _) fun b' hb' _=>aA (fun e=>hb (by rw [←e];exact hb')) _ _
 subst hcs
 refine ⟨M+2,.inr ⟨w.heap.size,0,2,rfl,FD,by omega,(by show 2≤maxLen;decide),fun i t ht=>?_⟩⟩
 match i,ht with
 |0,ht=>
  cases ht
  exact ⟨⟨by show _≤(5:Int);omega,by show (5:Int)≤_;omega,hk.1,by show k≤_;omega,by show _≤(0:Int);omega,by show (0:Int)≤_;omega,by show fE.size≤_;decide⟩,.slice none 0 0,⟨hc 0 _ rfl,hc 1 _ rfl,hc 2 _ rfl,hc 3 _ rfl,hc 4 _ rfl⟩,bu.nil _ _ _⟩
 |1,ht=>
  cases ht
  exact ⟨⟨by show _≤(21:Int);omega,by show (21:Int)≤_;omega,by show (0:Int)≤0;omega,by show (0:Int)≤_;omega,by show _≤(0:Int);omega,by show (0:Int)≤_;omega,by show fE.size≤_;decide⟩,v,⟨hc 5 _ rfl,hc 6 _ rfl,hc 7 _ rfl,hc 8 _ rfl,hc 9 _ rfl⟩,hl.mono (by omega)⟩
 |i+2,ht=>simp at ht
theorem Gj {rd:Rd} {fs:List FT} {l:List VT} {i:Nat} {f:FT} {v:VT} (hf:fs[i]? =some f) (hv:l[i]? =some v) {items:List (VT×Value)} (h:items.map (·.1)=(List.zipWith (aT rd) fs l).take i) {x:VT×Value} (hx:x.1=aT rd f v):(items++[x]).map (·.1)=(List.zipWith (aT rd) fs l).take (i+1):=by
 rw [List.take_add_one,BU hf hv,←h,List.map_append,←hx];rfl
theorem mG.cap {p:Option Addr} {n c:Nat} (h:mG B T P W items (.slice p n c) w):n≤c:=by
 have hn:n=items.length:=by
  obtain ⟨p',c',e⟩:=h.form
  cases e;rfl
 rcases h.row.2 with ⟨e,h0⟩|⟨g,cap,cur,e,hb,hg,hnc,hcm,hcs,htk⟩
 ·omega
 ·cases e;omega
theorem mG.aside (h:mG B T P W items v w) {r:Nat} (hg:w.grownBy w' (some r)) (hr:r<B) (hP:¬P r):mG B T P w' items v w':=by
 refine ⟨Below.refl _ _,Nat.le_trans h.Bw hg.size,World.ownsRow.kept h.row hg ?_,fun x hx=>⟨(h.own x hx).1,let ⟨M,hM⟩:=(h.own x hx).2;⟨M,hM.heap hg.size fun b hb hlt=>hg.block b hlt fun e=>?_⟩⟩⟩
 ·cases hv:v.ownBlock with
  |none=>exact .inl rfl
  |some b=>
   refine .inr (fun e=>?_)
   cases e
   have:=(h.iL hv).1
   omega
 ·cases e
  exact hP hb.1
theorem mG.here (h:mG B T P W items v w):mG B T P w items v w:=⟨Below.refl _ _,h.Bw,h.row,h.own⟩
end
theorem wz (w:World) (x y:Obj):ChangeMaps.setBlock (w.alloc x) w.heap.size y=w.alloc y:=by
 unfold ChangeMaps.setBlock World.alloc
 simp only
 congr 1
 apply Array.toList_inj.1
 simp
theorem FE {P:Program} (w:World) (ty:TypeId) (bm since c0:Nat) (seen:Array Nat) (es:Array MapEntry) (clock:Nat) (hb:w.heap[bm]? =some (.map es clock)) (hold:∀ x∈es.toList,x.born<since) (hsc:since≤c0):
 ((leftOf es seen).size=0∧(Instr.next (.pointer (some ⟨w.heap.size,0,none⟩)) false ty).run P (w.alloc (.mapIter (some bm) since seen c0))= .ok (.tuple #[.bool false]) (w.alloc (.mapIter (some bm) since seen c0)))∨
 ∃ e∈(leftOf es seen).toList,∃ w1:World,(w1.Alike w∧w1.tape=w.tape)∧(Instr.next (.pointer (some ⟨w.heap.size,0,none⟩)) false ty).run P (w.alloc (.mapIter (some bm) since seen c0))= .ok (.tuple #[.bool true,e.key,e.val]) (w1.alloc (.mapIter (some bm) since (seen.push e.born) clock)):=by
 have hlt:bm<w.heap.size:=(Array.getElem?_eq_some_iff.1 hb).1
 rcases run_next_at (P:=P) (w.alloc (.mapIter (some bm) since seen c0)) ty w.heap.size bm since c0 seen es clock (heap_alloc_new w _) (by rw [Below.heap_alloc w _ _ hlt];exact hb) hold hsc with h|⟨e,he,w1,hw1,hrun⟩
 ·exact .inl h
 ·right
  rcases hw1 with rfl|rfl
  ·exact ⟨e,he,w,⟨⟨rfl,rfl,rfl⟩,rfl⟩,by rw [hrun,wz]⟩
  ·refine ⟨e,he,w.drew,⟨⟨rfl,rfl,rfl⟩,rfl⟩,?_⟩
   rw [hrun]
   have:ChangeMaps.setBlock (w.alloc (.mapIter (some bm) since seen c0)).drew w.heap.size (.mapIter (some bm) since (seen.push e.born) clock)=(w.drew).alloc (.mapIter (some bm) since (seen.push e.born) clock):=wz w.drew _ _
   rw [this]
theorem CV {B:Nat} {w wn w1:World} (hb:Below B w wn) (ha:w1.Alike wn∧w1.tape=wn.tape) (hB:B≤wn.heap.size) (o:Obj):Below B w (w1.alloc o):=by
 have h1:Below B w w1:=⟨ha.1.2.1.trans hb.os,ha.2.trans hb.tape,ha.1.2.2.trans hb.output,by rw [ha.1.1];exact hb.size,fun k hk=>by rw [ha.1.1];exact hb.block k hk⟩
 exact h1.alloc (by rw [ha.1.1];exact hB) o
end Go.Proofs.Nu
