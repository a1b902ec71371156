/-
  The texts V3 F0 Nm2 Nm3 V4 W1 W2 W3 of this claim, one behind the other.
-/
import Derived.Test.YtmldhjoolebjoaaGreatDoorZTFB0
import Derived.Test.YtmldhjoolebjoaaGreatDoorZTFA0
import Derived.Deep.RegionHeld3
import Derived.Deep.DrawnRows
import Derived.Deep.QuietTactic
import Derived.BigQuiet
import Derived.WalkKit
import Derived.WalkSpells
import Derived.WalkLawsBesides
import Derived.Deep.Light
import Derived.Lib.Hide
import Derived.Laws.Concat
set_option maxHeartbeats 40000000
set_option maxRecDepth 100000
namespace Go.Proofs.YtmldhjoolebjoaaGreatDoor.Va
open Go Go.RowKit Nu
attribute [local go_sem ↓] Go.wp_at_zero Go.wp_at_succ
theorem Qb {a b:Nat} (h:((a:Int)!=(b:Int))=false):a=b:=by simp at h;omega
theorem Hf:∀ (N B:Nat) (k m:Int) (s:ByteArray) (e:Int) (l:List VT) (lv:Value) (k' m':Int) (s':ByteArray) (e':Int) (l':List VT) (gM:Value) (w:World),bR B w N lv l→bR B w N gM l'→B≤w.heap.size→
 Calls Tryz.prog 11 #[.agg #[.int .i64 k,.int .u64 m,.string s,lv,.int .i64 e],.agg #[.int .i64 k',.int .u64 m',.string s',gM,.int .i64 e']] w fun r w'=>r= .returned (.bool (mM (.mk k m s e l) (.mk k' m' s' e' l')))∧Below w.heap.size w w':=by
 intro N
 induction N with
 |zero=>intro B k m s e l lv k' m' s' e' l' gM w h;exact h.elim
 |succ N ih=>
  intro B k m s e l lv k' m' s' e' l' gM w hl hl' hB
  have HL:=ajd hl
  have Yh:=ajd hl'
  obtain ⟨p,c,rfl⟩:=hl.slice
  obtain ⟨p',c',rfl⟩:=hl'.slice
  have hlen:l.length≤9223372036854775807:=hl.len
  have hlen':l'.length≤9223372036854775807:=hl'.len
  clear hl hl'
  by_cases hhd:V5 (.mk k m s e l) (.mk k' m' s' e' l')
  ·have HE:=ajd (V6 hhd)
   obtain ⟨rfl,rfl,rfl,rfl,hll⟩:=hhd
   have hll:l.length=l'.length:=hll
   simp only [VT.kind,VT.num,VT.text,VT.elem,VT.list] at HE ⊢
   obtain ⟨R,hR⟩:∃ R,mM (.mk k m s e l) (.mk k m s e l')=R:=⟨_,rfl⟩
   rw [hR] at HE ⊢
   clear hR
   obtain ⟨n,hn⟩:∃ n,l.length=n:=⟨_,rfl⟩
   have hn':l'.length=n:=by omega
   have Hn:=ajd hn
   have Qc:=ajd hn'
   rw [hn] at hlen HL ⊢
   rw [hn'] at Yh ⊢
   clear hll hlen' hn hn'
   go_enter Tryz.func11,Tryz.ntmps11
   go_wp2
   obtain ⟨W1,hW1⟩:∃ W1,(w.alloc (.cells #[.int .i64 k,.int .u64 m,.string s,.slice p n c,.int .i64 e] 25)).alloc (.cells #[.int .i64 k,.int .u64 m,.string s,.slice p' n c',.int .i64 e] 25)=W1:=⟨_,rfl⟩
   have hz1:W1.heap.size=w.heap.size+2:=by rw [←hW1];simp
   have hc1:W1.cell? ⟨w.heap.size,3,none⟩=some (.slice p n c):=by rw [←hW1];simp
   have hc2:W1.cell? ⟨w.heap.size+1,3,none⟩=some (.slice p' n c'):=by rw [←hW1];simp
   have hb1:Below w.heap.size w W1:=by rw [←hW1];exact ((Below.refl _ _).alloc (Nat.le_refl _) _).alloc (by simp) _
   rw [hW1]
   clear hW1
   go_loopw [5] (fun i wr=>∃ (j:Nat),i= .int .i64 j∧j≤n∧Hid (iQ (l.drop j) (l'.drop j)=R)∧Below (w.heap.size+2) W1 wr) (fun i _=>n-(intOf i).toNat)
   case atStart=>exact ⟨0,rfl,Nat.zero_le _,HE.out.symm,Below.refl _ _⟩
   case round=>
    obtain ⟨j,rfl,hj,HQ,hb⟩:=hrel
    have d1:wr.cell? ⟨w.heap.size,3,none⟩=some (.slice p n c):=(hb.cell (p:=⟨w.heap.size,3,none⟩) (by simp)).trans hc1
    have d2:wr.cell? ⟨w.heap.size+1,3,none⟩=some (.slice p' n c'):=(hb.cell (p:=⟨w.heap.size+1,3,none⟩) (by simp)).trans hc2
    have hbw:Below w.heap.size w wr:=hb1.trans (hb.mono (by omega))
    by_cases hlt:j<n
    ·rcases HL.out with ⟨h0,_⟩|⟨b,off,c0,hp,jy,_,hel⟩
     ·rw [←Hn.out,h0] at hlt;exact absurd hlt (by simp)
     rcases Yh.out with ⟨h0,_⟩|⟨b',off',c0',hp',Yi,_,MU⟩
     ·rw [←Qc.out,h0] at hlt;exact absurd hlt (by simp)
     rw [Hn.out] at hp
     rw [Qc.out] at hp'
     cases hp
     cases hp'
     obtain ⟨t,ht⟩:∃ t,l[j]? =some t:=⟨_,List.getElem?_eq_getElem (by rw [Hn.out];exact hlt)⟩
     obtain ⟨t',ht'⟩:∃ t,l'[j]? =some t:=⟨_,List.getElem?_eq_getElem (by rw [Qc.out];exact hlt)⟩
     obtain ⟨hf,lv,hat,hl⟩:=hel j t ht
     obtain ⟨hf',gM,hat',hl'⟩:=MU j t' ht'
     obtain ⟨e0,e1,e2,e3,e4⟩:=hat.below (hbw.mono hB) jy
     obtain ⟨f0,f1,f2,f3,f4⟩:=hat'.below (hbw.mono hB) Yi
     have hlH:=ajd (hl.below (hbw.mono hB))
     have ahO:=ajd (hl'.below (hbw.mono hB))
     have wI:w.heap.size+2≤wr.heap.size:=by have:=hb.size;omega
     have hst:=ajd (F7 ht ht')
     have hi0:(0:Int)≤(j:Int):=by omega
     have hi1:(j:Int)<(n:Int):=by omega
     have hb0:b<w.heap.size:=by omega
     have aeS:b'<w.heap.size:=by omega
     clear hel hl hat MU hl' hat' ht ht'
     have gu:Hid (∀ w',Below wr.heap.size wr w'→(Below wr.heap.size wr w'∧w'.cell? ⟨w.heap.size,3,none⟩=some (.slice (some ⟨b,off,none⟩) n c)∧w'.cell? ⟨w.heap.size+1,3,none⟩=some (.slice (some ⟨b',off',none⟩) n c')∧
      w'.cell? ⟨b,off+j*5,none⟩=some (.int .i64 t.kind)∧w'.cell? ⟨b,off+j*5+1,none⟩=some (.int .u64 t.num)∧w'.cell? ⟨b,off+j*5+2,none⟩=some (.string t.text)∧w'.cell? ⟨b,off+j*5+3,none⟩=some lv∧w'.cell? ⟨b,off+j*5+4,none⟩=some (.int .i64 t.elem)∧
      w'.cell? ⟨b',off'+j*5,none⟩=some (.int .i64 t'.kind)∧w'.cell? ⟨b',off'+j*5+1,none⟩=some (.int .u64 t'.num)∧w'.cell? ⟨b',off'+j*5+2,none⟩=some (.string t'.text)∧w'.cell? ⟨b',off'+j*5+3,none⟩=some gM∧w'.cell? ⟨b',off'+j*5+4,none⟩=some (.int .i64 t'.elem))):=fun w' h=>
      have k:∀ b o,b<wr.heap.size→w'.cell? ⟨b,o,none⟩=wr.cell? ⟨b,o,none⟩:=fun b o hb=>h.cell (p:=⟨b,o,none⟩) hb
      ⟨h,(k _ _ (by omega)).trans d1,(k _ _ (by omega)).trans d2,(k _ _ (by omega)).trans e0,(k _ _ (by omega)).trans e1,(k _ _ (by omega)).trans e2,(k _ _ (by omega)).trans e3,(k _ _ (by omega)).trans e4,(k _ _ (by omega)).trans f0,(k _ _ (by omega)).trans f1,(k _ _ (by omega)).trans f2,(k _ _ (by omega)).trans f3,(k _ _ (by omega)).trans f4⟩
     obtain ⟨X,hX⟩:∃ X,mM t t'=X:=⟨_,rfl⟩
     rw [hX] at hst
     have HX:=ajd hX
     clear hX
     go_wp2
     go_region_held3 (fun w'=>Below wr.heap.size wr w'∧w'.cell? ⟨w.heap.size,3,none⟩=some (.slice (some ⟨b,off,none⟩) n c)∧w'.cell? ⟨w.heap.size+1,3,none⟩=some (.slice (some ⟨b',off',none⟩) n c')∧
      w'.cell? ⟨b,off+j*5,none⟩=some (.int .i64 t.kind)∧w'.cell? ⟨b,off+j*5+1,none⟩=some (.int .u64 t.num)∧w'.cell? ⟨b,off+j*5+2,none⟩=some (.string t.text)∧w'.cell? ⟨b,off+j*5+3,none⟩=some lv∧w'.cell? ⟨b,off+j*5+4,none⟩=some (.int .i64 t.elem)∧
      w'.cell? ⟨b',off'+j*5,none⟩=some (.int .i64 t'.kind)∧w'.cell? ⟨b',off'+j*5+1,none⟩=some (.int .u64 t'.num)∧w'.cell? ⟨b',off'+j*5+2,none⟩=some (.string t'.text)∧w'.cell? ⟨b',off'+j*5+3,none⟩=some gM∧w'.cell? ⟨b',off'+j*5+4,none⟩=some (.int .i64 t'.elem))
      (first
        |exact gu.out _ (Below.refl _ _)
        |exact gu.out _ (Below.refl _ _).drew
        |exact gu.out _ (((Below.refl _ _).drew).trans hb2)
        |assumption)
      ((go_at_call 11;refine (ih B t.kind t.num t.text t.elem t.list lv t'.kind t'.num t'.text t'.elem t'.list gM wr.drew (hlH.out.below (Below.refl _ _).drew) (ahO.out.below (Below.refl _ _).drew) (by show B≤wr.heap.size;omega)).mono ?_;rintro r w2 ⟨hr,hb2⟩;rw [VT.eta,VT.eta,HX.out] at hr;subst hr;replace hb2:Below wr.heap.size wr.drew w2:=hb2))
     have hb3:Below (w.heap.size+2) W1 w2:=hb.trans (((Below.refl _ _).drew.trans hb2).mono wI)
     clear gu
     cases X with
     |false=>
      go_wp2
      go_ret
      refine ⟨ay ?_,hb1.trans (hb3.mono (by omega))⟩
      rw [←HQ.out,hst.out,Bool.false_and]
     |true=>
      go_wp2
      go_roundw
      case rel=>exact ⟨j+1,by go_num,by omega,by rw [←HQ.out,hst.out,Bool.true_and];exact rfl,hb3⟩
      case measure=>simp [intOf];omega
    ·obtain rfl:j=n:=by omega
     go_wp2
     go_ret
     exact ⟨ay (by rw [←HQ.out,←Hn.out,Kj (by rw [Hn.out,Qc.out])]),hbw⟩
  ·have HE:=ajd (ZM hhd)
   obtain ⟨R,hR⟩:∃ R,mM (.mk k m s e l) (.mk k' m' s' e' l')=R:=⟨_,rfl⟩
   rw [hR] at HE ⊢
   clear hR
   have Hhd:=ajd hhd
   clear hhd
   go_enter Tryz.func11,Tryz.ntmps11
   go_wp2
   all_goals first
    |(go_ret;exact ⟨ay HE.out.symm,((Below.refl _ _).alloc (Nat.le_refl _) _).alloc (by simp) _⟩)
    |(exfalso;apply Hhd.out;exact ⟨by assumption,by assumption,toList_inj (by assumption),by assumption,Qb (by assumption)⟩)
theorem qG {N B:Nat} {t t':VT} {v v':Value} {w:World} (h:Zu B w N v t) (h':Zu B w N v' t') (hB:B≤w.heap.size):
 Calls Tryz.prog 11 #[v,v'] w fun r w'=>r= .returned (.bool (mM t t'))∧Below w.heap.size w w':=by
 obtain ⟨_,lv,rfl,hl⟩:=h
 obtain ⟨_,gM,rfl,hl'⟩:=h'
 have:=Hf N B t.kind t.num t.text t.elem t.list lv t'.kind t'.num t'.text t'.elem t'.list gM w hl hl' hB
 rwa [VT.eta,VT.eta] at this
end Go.Proofs.YtmldhjoolebjoaaGreatDoor.Va
namespace Go.Proofs.YtmldhjoolebjoaaGreatDoor.Fd
open Go Go.RowKit Nu Va
attribute [local go_sem ↓] Go.wp_at_zero Go.wp_at_succ
theorem y9 {n:Nat} {a b:World} (h:Below n a b) (q:Nat):Below n a (b.drewN q):=⟨h.os,h.tape,h.output,h.size,h.block⟩
theorem AB (f:FT) (kv:Value):(fA f kv).length=9:=rfl
theorem ED:∀ {fs:List FT} {kvs:List Value} {i:Nat} {f:FT} {kv:Value},fs[i]? =some f→kvs[i]? =some kv→∀ j,j<9→(Az fs kvs)[i*9+j]? =(fA f kv)[j]?
 |[],_,i,f,kv,h,_,_,_=>by simp at h
 |_::_,[],i,f,kv,_,h,_,_=>by simp at h
 |f0::fs,k0::kvs,0,f,kv,h,h',j,hj=>by
  simp at h h'
  subst h;subst h'
  rw [Az,Nat.zero_mul,Nat.zero_add,List.getElem?_append_left (by rw [AB];exact hj)]
 |f0::fs,k0::kvs,i+1,f,kv,h,h',j,hj=>by
  rw [Az,List.getElem?_append_right (by rw [AB];omega),AB,show (i+1)*9+j-9=i*9+j by omega]
  exact ED (by simpa using h) (by simpa using h') j hj
structure At9 (w:World) (b o:Nat) (f:FT) (kv:Value):Prop where
 name:w.cell? ⟨b,o,none⟩=some (.string ⟨f.name.toArray⟩)
 type:w.cell? ⟨b,o+1,none⟩=some (.int .i64 f.type)
 kinds:w.cell? ⟨b,o+2,none⟩=some kv
 must:w.cell? ⟨b,o+3,none⟩=some (.bool f.must)
 dk:w.cell? ⟨b,o+4,none⟩=some (.int .i64 f.dk)
 dn:w.cell? ⟨b,o+5,none⟩=some (.int .u64 f.dn)
 dt:w.cell? ⟨b,o+6,none⟩=some (.string ⟨f.dt.toArray⟩)
 dl:w.cell? ⟨b,o+7,none⟩=some (.slice none 0 0)
 de:w.cell? ⟨b,o+8,none⟩=some (.int .i64 0)
theorem MQ.heap {lo hi:Nat} {w w':World} {sz n:Nat} {v:Value} {cs:List Value} (h:MQ lo hi w sz v n cs) (hz:w.heap.size≤w'.heap.size) (he:∀ b,lo≤b→b<hi→w'.heap[b]? =w.heap[b]?):MQ lo hi w' sz v n cs:=by
 obtain ⟨b,off,c,h1,h2,h3,h3',h4,h5,h6⟩:=h
 exact ⟨b,off,c,h1,h2,h3,Nat.le_trans h3' hz,h4,dQ h5 (he b h2 h3),fun j x hx=>(World.cell?_of_block (a:=⟨b,_,none⟩) (he b h2 h3)).trans (h6 j x hx)⟩
theorem jq.heap {lo hi:Nat} {w w':World} {v:Value} {ks:List Int} (h:jq lo hi w v ks) (hz:w.heap.size≤w'.heap.size) (he:∀ b,lo≤b→b<hi→w'.heap[b]? =w.heap[b]?):jq lo hi w' v ks:=by
 rcases h with h|⟨h1,h2⟩
 ·exact .inl h
 ·exact .inr ⟨h1,h2.heap hz he⟩
theorem j6.heap {lo hi:Nat} {w w':World} {v:Value} {fs:List FT} (h:j6 lo hi w v fs) (hz:w.heap.size≤w'.heap.size) (he:∀ b,lo≤b→b<hi→w'.heap[b]? =w.heap[b]?):j6 lo hi w' v fs:=by
 rcases h with h|⟨h1,kvs,h2,h3,h4,h5⟩
 ·exact .inl h
 ·exact .inr ⟨h1,kvs,h2,h3.heap hz he,fun i f kv hf hk=>(h4 i f kv hf hk).heap hz he,h5⟩
theorem MQ.abT {lo hi:Nat} {w:World} {sz n:Nat} {v:Value} {cs:List Value} (h:MQ lo hi w sz v n cs):hi≤w.heap.size:=by
 obtain ⟨b,off,c,h1,h2,h3,h3',_⟩:=h
 exact h3'
theorem jq.below {lo hi:Nat} {w w':World} {v:Value} {ks:List Int} (h:jq lo hi w v ks) (hb:Below w.heap.size w w'):jq lo hi w' v ks:=by
 rcases h with h|⟨h1,h2⟩
 ·exact .inl h
 ·exact .inr ⟨h1,h2.heap hb.size fun b _ hlt=>hb.block b (Nat.lt_of_lt_of_le hlt h2.abT)⟩
theorem j6.below {lo hi:Nat} {w w':World} {v:Value} {fs:List FT} (h:j6 lo hi w v fs) (hb:Below w.heap.size w w'):j6 lo hi w' v fs:=by
 rcases h with h|⟨h1,kvs,h2,h3,h4⟩
 ·exact .inl h
 ·exact j6.heap (.inr ⟨h1,kvs,h2,h3,h4⟩) hb.size fun b _ hlt=>hb.block b (Nat.lt_of_lt_of_le hlt h3.abT)
theorem j6.view {lo hi:Nat} {w:World} {v:Value} {fs:List FT} (h:j6 lo hi w v fs):∃ p c,v= .slice p fs.length c∧∀ i f,fs[i]? =some f→∃ b off kv,p=some ⟨b,off,none⟩∧b<w.heap.size∧At9 w b (off+i*9) f kv∧jq lo hi w kv f.kinds:=by
 rcases h with ⟨rfl,rfl⟩|⟨_,kvs,h2,⟨b,off,c,rfl,_,hlt,hhi,_,_,hr⟩,h4,_⟩
 ·exact ⟨none,0,rfl,fun i f hf=>by simp at hf⟩
 ·refine ⟨_,c,rfl,fun i f hf=>?_⟩
  have hi:=(List.getElem?_eq_some_iff.1 hf).1
  obtain ⟨kv,hkv⟩:∃ kv,kvs[i]? =some kv:=⟨_,List.getElem?_eq_getElem (by omega)⟩
  have hg:∀ j x,j<9→(fA f kv)[j]? =some x→w.cell? ⟨b,off+i*9+j,none⟩=some x:=fun j x hj hx=>by
   rw [Nat.add_assoc]
   exact hr _ x ((ED hf hkv j hj).trans hx)
  exact ⟨b,off,kv,rfl,Nat.lt_of_lt_of_le hlt hhi,⟨hg 0 _ (by omega) rfl,hg 1 _ (by omega) rfl,hg 2 _ (by omega) rfl,hg 3 _ (by omega) rfl,hg 4 _ (by omega) rfl,hg 5 _ (by omega) rfl,hg 6 _ (by omega) rfl,hg 7 _ (by omega) rfl,hg 8 _ (by omega) rfl⟩,h4 i f kv hf hkv⟩
theorem jq.view {lo hi:Nat} {w:World} {v:Value} {ks:List Int} (h:jq lo hi w v ks):∃ p c,v= .slice p ks.length c∧∀ j k,ks[j]? =some k→∃ b off,p=some ⟨b,off,none⟩∧b<w.heap.size∧w.cell? ⟨b,off+j,none⟩=some (.int .i64 k):=by
 rcases h with ⟨rfl,rfl⟩|⟨_,b,off,c,rfl,_,hlt,hhi,_,_,hr⟩
 ·exact ⟨none,0,rfl,fun j k hk=>by simp at hk⟩
 ·exact ⟨_,c,rfl,fun j k hk=>⟨b,off,rfl,Nat.lt_of_lt_of_le hlt hhi,hr j _ (by rw [List.getElem?_map,hk];rfl)⟩⟩
end Go.Proofs.YtmldhjoolebjoaaGreatDoor.Fd
namespace Go.Proofs.YtmldhjoolebjoaaGreatDoor.Nm
open Go Go.RowKit Nu
theorem ze {w:World}:∀ {rs:List (Int×List (List UInt8))} {es:List MapEntry} {b:Nat},Av w es b rs→∀ e∈es,b≤e.born∧e.born<b+rs.length∧∃ r∈rs,e.key= .int .i64 r.1∧P8 w e.val r.2
 |[],es,b,h,e,he=>by rw [show es=[] from h] at he;cases he
 |r::rs,es,b,h,e,he=>by
  obtain ⟨e0,t,rfl,h1,h2,h3,h4⟩:=h
  rcases List.mem_cons.1 he with rfl|he
  ·exact ⟨by omega,by simp;omega,r,List.mem_cons_self,h1,h2⟩
  ·obtain ⟨a,b',q,hq,c⟩:=ze h4 e he
   exact ⟨by omega,by simp at b' ⊢;omega,q,List.mem_cons_of_mem _ hq,c⟩
theorem MV {w:World}:∀ {rs:List (Int×List (List UInt8))} {es:List MapEntry} {b:Nat},Av w es b rs→∀ r∈rs,∃ e∈es,e.key= .int .i64 r.1∧P8 w e.val r.2
 |[],_,_,_,r,hr=>by cases hr
 |r0::rs,es,b,h,r,hr=>by
  obtain ⟨e0,t,rfl,h1,h2,h3,h4⟩:=h
  rcases List.mem_cons.1 hr with rfl|hr
  ·exact ⟨e0,List.mem_cons_self,h1,h2⟩
  ·obtain ⟨e,he,c⟩:=MV h4 r hr
   exact ⟨e,List.mem_cons_of_mem _ he,c⟩
theorem rows_nodup {w:World}:∀ {rs:List (Int×List (List UInt8))} {es:List MapEntry} {b:Nat},Av w es b rs→(es.map (·.born)).Nodup
 |[],es,b,h=>by rw [show es=[] from h];exact List.nodup_nil
 |r0::rs,es,b,h=>by
  obtain ⟨e0,t,rfl,h1,h2,h3,h4⟩:=h
  rw [List.map_cons,List.nodup_cons]
  refine ⟨fun hm=>?_,rows_nodup h4⟩
  obtain ⟨e,he,heq⟩:=List.mem_map.1 hm
  have:=(ze h4 e he).1
  omega
def hits (k:Int) (e:MapEntry):Prop:=∃ r∈rows,e.key= .int .i64 r.1∧r.1≤k∧k-r.1<(r.2.length:Int)
theorem aaD:∀ r∈rows,16≤r.1∧r.1≤112∧r.2.length≤9∧1≤r.2.length:=by decide
set_option maxRecDepth 1000000 in
theorem EE (k:Int) {w:World} {t:TypeId} (hsp:w.heap[2]? =some (.cells (Lib.asciiSpaceTab.map fun z=>Value.int .u8 z).toArray t (0,0))) (hk0: -9223372036854775808≤k) (hk1:k≤9223372036854775807):
 Calls Tryz.prog 109 #[.int .i64 k] w fun e w'=>e= .returned (.string (fC k))∧Below w.heap.size w w':=by
 go_enter Tryz.func109,Tryz.ntmps109
 go_wp2_with (refine (UH hsp).mono ?_;rintro e wn ⟨bm,es,clock,rfl,hbm,hrows,rfl,hnew,hbel⟩;have hrg:=run_range_map (P:=Tryz.prog) wn 139 3 53 bm es 6 Tryz.underlying139 hbm)
 all_goals
  have ahP:∀ x∈es.toList,x.born<6:=fun x hx=>by have:=(ze hrows x hx).2.1;rw [show rows.length=6 from rfl] at this;omega
  have hnd:=rows_nodup hrows
  have Yj:=ajd hrows;clear hrows
  go_loopw [] (fun w'=>∃ (w1:World) (seen:Array Nat),(w1.Alike wn∧w1.tape=wn.tape)∧w'=w1.alloc (.mapIter (some bm) 6 seen 6)∧∀ x∈es.toList,seen.contains x.born=true→¬hits k x) (fun w'=>(leftOf es (w'.iterSeen wn.heap.size)).size)
  case atStart=>exact ⟨wn,#[],⟨⟨rfl,rfl,rfl⟩,rfl⟩,rfl,fun x _ h=>by simp at h⟩
  case round=>
   obtain ⟨w1,seen,hal,rfl,hno⟩:=hrel
   have hsz:w1.heap.size=wn.heap.size:=by rw [hal.1.1]
   have hb1:w1.heap[bm]? =some (.map es 6):=by rw [hal.1.1];exact hbm
   have law:=FE (P:=Tryz.prog) w1 0 bm 6 6 seen es 6 hb1 ahP (Nat.le_refl _)
   rw [hsz] at law
   rcases law with ⟨h0,hrun⟩|⟨e,he,w2,UJ,hrun⟩
   ·have hnx:∀ ty,(Instr.next (.pointer (some ⟨wn.heap.size,0,none⟩)) false ty).run Tryz.prog (w1.alloc (.mapIter (some bm) 6 seen 6))=_:=fun _=>hrun
    go_wp2
    go_ret
    refine ⟨?_,?_⟩
    ·have hn:fe k=[]:=zH fun r hr hc=>by
      obtain ⟨e,he,hke,_⟩:=MV Yj.out r hr
      exact hno e he (all_seen es seen h0 e he) ⟨r,hr,hke,hc.1,hc.2⟩
     unfold fC
     rw [hn];rfl
    ·exact CV hbel hal hbel.size _
   ·obtain ⟨r,hr,hkey,aeT⟩:=(ze Yj.out e (mem_left he).1).2.2
    obtain ⟨b,off,c,hval,hbl,hcell⟩:=aeT
    rw [hkey,hval] at hrun
    have hnx:∀ ty,(Instr.next (.pointer (some ⟨wn.heap.size,0,none⟩)) false ty).run Tryz.prog (w1.alloc (.mapIter (some bm) 6 seen 6))=_:=fun _=>hrun
    have hsz2:w2.heap.size=wn.heap.size:=by rw [UJ.1.1,hal.1.1]
    have hb2:w2.heap[bm]? =some (.map es 6):=by rw [UJ.1.1];exact hb1
    have hen:=run_entry_map (P:=Tryz.prog) w2 bm 6 seen es 6 e hb2 (mem_left he).1 hnd
    rw [hsz2,hkey,hval] at hen
    have aaE:w2.Alike wn∧w2.tape=wn.tape:=⟨⟨UJ.1.1.trans hal.1.1,UJ.1.2.1.trans hal.1.2.1,UJ.1.2.2.trans hal.1.2.2⟩,UJ.2.trans hal.2⟩
    have hcell2:∀ i s,r.2[i]? =some s→w2.cell? ⟨b,off+i,none⟩=some (.string ⟨s.toArray⟩):=fun i s hs=>by
     rw [←hcell i s hs];unfold World.cell?;rw [aaE.1.1]
    obtain ⟨f,l⟩:=r
    have hbd:=aaD _ hr
    simp only at hkey hval hcell2 hbd hrun hen hnx
    obtain ⟨hf0,hf1,hl1,hl0⟩:=hbd
    have RY:∀ (_:¬(f≤k∧k-f<(l.length:Int))) (x:MapEntry),x∈es.toList→(seen.push e.born).contains x.born=true→¬hits k x:=by
     intro hh x hx hc
     rw [contains_push] at hc
     rcases Bool.or_eq_true _ _▸hc with h1|h1
     ·exact hno x hx h1
     ·have:x=e:=born_inj hnd hx (mem_left he).1 (beq_iff_eq.1 h1)
      subst this
      rintro ⟨q,hq,hqk,hq1,hq2⟩
      rw [hkey] at hqk
      have hfe:f=q.1:=by injection hqk
      rcases Cv _ hr q hq with e1|e1|e1
      ·subst e1;exact hh ⟨hq1,hq2⟩
      ·simp only at e1;omega
      ·simp only at e1;omega
    have hms:(leftOf es ((w2.alloc (.mapIter (some bm) 6 (seen.push e.born) 6)).iterSeen wn.heap.size)).size<(leftOf es ((w1.alloc (.mapIter (some bm) 6 seen 6)).iterSeen wn.heap.size)).size:=by
     rw [←hsz2,World.iterSeen_alloc,hsz2,←hsz,World.iterSeen_alloc]
     exact left_shrinks es seen e he
    have hny:=ajd RY;clear RY
    have hm:=ajd hms;clear hms
    by_cases h1:f≤k
    ·by_cases h2:k-f<(l.length:Int)
     ·obtain ⟨s,hs,hname⟩:=We hr h1 h2
      simp only at hs hname
      have hc1:=hcell2 _ s hs
      have hnm:=ajd hname;clear hname
      have hsl:=Kl _ hr s (List.mem_of_getElem? hs)
      have hk2:0≤k-f:=by omega
      go_wp2
      go_ret
      refine ⟨?_,CV hbel aaE hbel.size _⟩
      first
       |exact congrArg (fun x=>Ending.returned (.string x)) (jS hnm.out (xM k (.inl (by assumption))))
       |exact congrArg (fun x=>Ending.returned (.string x)) (jS hnm.out (xM k (.inr (.inl (by assumption)))))
       |exact congrArg (fun x=>Ending.returned (.string x)) (jS hnm.out (xM k (.inr (.inr (.inl (by assumption))))))
       |exact congrArg (fun x=>Ending.returned (.string x)) (jS hnm.out (xM k (.inr (.inr (.inr (by assumption))))))
       |exact congrArg (fun x=>Ending.returned (.string x)) (jS hnm.out (Wh k (by assumption)))
       |exact congrArg (fun x=>Ending.returned (.string x)) (jS hnm.out (Wi k (by assumption)))
       |exact congrArg (fun x=>Ending.returned (.string x)) (jS hnm.out (SE k (by assumption) (by assumption) (by assumption) (by assumption) (by assumption) (by assumption)))
     ·go_wp2
      go_roundw
      case rel=>exact ⟨w2,seen.push e.born,aaE,rfl,hny.out (fun h=>h2 h.2)⟩
      case measure=>exact hm.out
    ·go_wp2
     go_roundw
     case rel=>exact ⟨w2,seen.push e.born,aaE,rfl,hny.out (fun h=>h1 h.1)⟩
     case measure=>exact hm.out
end Go.Proofs.YtmldhjoolebjoaaGreatDoor.Nm
namespace Go.Proofs.YtmldhjoolebjoaaGreatDoor.Nm
open Go Go.RowKit Go.CE Nu
noncomputable def UK (k:Int):gG:={f:=179,args:=[.int .i64 k],jI:=[],val:= .string (fC k)}
noncomputable def aaF (k:Int):gG:={f:=179,args:=[.int .i64 k],jI:=[],val:= .string ⟨#[]⟩}
theorem UL (j:Nat):(aaF (Int.negSucc j)).says Tryz.prog 7 1000000 []=true:=by kernel_rfl
theorem UM (j:Nat):(aaF (Int.ofNat (j+121))).says Tryz.prog 7 1000000 []=true:=by kernel_rfl
theorem aeU:((List.range 40).all fun k=>(UK (Int.ofNat k)).says Tryz.prog 7 1000000 [])=true:=by kernel_rfl
theorem aeV:((List.range 40).all fun k=>(UK (Int.ofNat (k+40))).says Tryz.prog 7 1000000 [])=true:=by kernel_rfl
theorem aeW:((List.range 41).all fun k=>(UK (Int.ofNat (k+80))).says Tryz.prog 7 1000000 [])=true:=by kernel_rfl
theorem MW (k:Int) (h:k<16∨120<k):fC k=⟨#[]⟩:=by
 have:fe k=[]:=zH fun r hr hc=>by
  have hb:∀ r∈rows,16≤r.1∧r.1+r.2.length≤121:=by decide
  have:=hb r hr
  omega
 unfold fC
 rw [this]
theorem Yk:∀ k:Int,(UK k).says Tryz.prog 7 1000000 []=true
 | .negSucc j=>by
   have:=UL j
   unfold aaF at this;unfold UK
   rw [MW (Int.negSucc j) (.inl (by omega))];exact this
 | .ofNat n=>by
   by_cases h1:n<40
   ·exact List.all_eq_true.1 aeU n (List.mem_range.2 h1)
   ·by_cases h2:n<80
    ·have:=List.all_eq_true.1 aeV (n-40) (List.mem_range.2 (by omega))
     rwa [show n-40+40=n by omega] at this
    ·by_cases h3:n<121
     ·have:=List.all_eq_true.1 aeW (n-80) (List.mem_range.2 (by omega))
      rwa [show n-80+80=n by omega] at this
     ·have:=UM (n-121)
      rw [show n-121+121=n by omega] at this
      unfold aaF at this;unfold UK
      rw [MW (Int.ofNat n) (.inr (by rw [Int.ofNat_eq_natCast];omega))];exact this
theorem BC (k:Int) (w:World):Calls Tryz.prog 179 #[.int .i64 k] w fun e w'=>e= .returned (.string (fC k))∧Below w.heap.size w w':=
 AZ (RJ mixed y7 (vL _ _) (Yk k)) (G9 _ _)
end Go.Proofs.YtmldhjoolebjoaaGreatDoor.Nm
namespace Go.Proofs.YtmldhjoolebjoaaGreatDoor.Va
open Go Go.RowKit Nu Go.Proofs.YtmldhjoolebjoaaGreatDoor.Nm
attribute [local go_sem ↓] Go.wp_at_zero Go.wp_at_succ
def Yl (s:ByteArray) (w:World) (r:Ending) (w':World):Prop:=∃ b,r= .returned (.bool b)∧(b=true↔ZP<+:s.data.toList)∧w'=w
theorem UN (s:ByteArray) (w:World) (hs:s.size≤9223372036854775807):
 Calls Tryz.prog 180 #[.string s,.string ⟨#[108,111,110,103,115,104,111,114,101,58]⟩] w (Yl s w):=by
 go_enter Tryz.func180,Tryz.ntmps180
 by_cases h:10≤s.size
 ·go_wp2
  go_ret
  refine ⟨_,rfl,?_,rfl⟩
  rw [Lib.toList_data,Lib.extract_data,List.prefix_iff_eq_take,beq_iff_eq]
  exact ⟨fun h=>Eq.symm h,fun h=>Eq.symm h⟩
 ·go_wp2
  go_ret
  refine ⟨false,rfl,⟨fun hp=>(by cases hp),fun hp=>absurd hp.length_le ?_⟩,rfl⟩
  rw [←Lib.size_eq]
  simp [ZP];omega
theorem Qd (s:ByteArray) (w:World) (hs:s.size≤9223372036854775807):
 Calls Tryz.prog 153 #[.string s,.string ⟨#[108,111,110,103,115,104,111,114,101,58]⟩] w (Yl s w):=by
 go_enter Tryz.func153,Tryz.ntmps153
 go_wp2_with (go_at_call 180;refine (UN s _ hs).mono ?_;rintro r w2 ⟨b,rfl,hb,rfl⟩;have HB:=ajd hb;clear hb)
 go_ret
 exact ⟨_,rfl,HB.out,rfl⟩
theorem ac1 {s:ByteArray} (h:s.toList=[]):s=fE:=toList_inj (by rw [h,Lib.toList_data];rfl)
theorem BD {a:Nat} (h:((a:Int)!=2)=false):a=2:=by simp at h;omega
theorem aaG {ds:ByteArray} {q:Int} (h:∀ i,16≤i→i<q→fe i≠[]→ds≠fC i) (hq:¬ds=fC q):∀ i,16≤i→i<q+1→fe i≠[]→ds≠fC i:=fun i h1 h2 h3=>by
 by_cases hi:i=q
 ·rw [hi];exact hq
 ·exact h i h1 (by omega) h3
def lN (o:Option Int):Value:= .tuple #[.int .i64 (Km o),.bool o.isSome]
theorem Ym {N B:Nat} {k m:Int} {s:ByteArray} {e:Int} {l:List VT} {lv:Value} {w:World} {t:TypeId} (hl:bR B w N lv l) (hf:(VT.mk k m s e l).bD) (hB:B≤w.heap.size)
 (hsp:w.heap[2]? =some (.cells (Lib.asciiSpaceTab.map fun z=>Value.int .u8 z).toArray t (0,0))):
 Calls Tryz.prog 104 #[.agg #[.int .i64 k,.int .u64 m,.string s,lv,.int .i64 e]] w fun r w'=>r= .returned (lN (kindOf (.mk k m s e l)))∧Below w.heap.size w w':=by
 have HSP:Hid (∀ W',Below w.heap.size w W'→W'.heap[2]? =some (.cells (Lib.asciiSpaceTab.map fun z=>Value.int .u8 z).toArray t (0,0))):=fun W' h=>(h.block _ (Array.getElem?_eq_some_iff.1 hsp).1).trans hsp
 clear hsp
 obtain ⟨p,c,rfl⟩:=hl.slice
 have hlen:l.length≤9223372036854775807:=hl.len
 by_cases hd:k=24∧l.length=2
 ·obtain ⟨rfl,hl2⟩:=hd
  obtain ⟨d,x,rfl⟩:∃ d x,l=[d,x]:=by
   match l,hl2 with
   |[d,x],_=>exact ⟨d,x,rfl⟩
  cases N with
  |zero=>exact hl.elim
  |succ N=>
   rcases hl with ⟨h0,_⟩|⟨b,off,c',hp,jy,_,hel⟩
   ·cases h0
   cases hp
   obtain ⟨hfd,lv,hat,hld⟩:=hel 0 d rfl
   obtain ⟨p,c1,rfl⟩:=hld.slice
   simp only [Nat.zero_mul,Nat.add_zero] at hat
   obtain ⟨e0,e1,e2,e3,e4⟩:=hat
   have hdl:d.list.length≤9223372036854775807:=hld.len
   obtain ⟨n0,n1,hx⟩:0≤d.num∧d.num≤18446744073709551615∧d.text.size≤9223372036854775807:=⟨hfd.n0,hfd.n1,hfd.x1⟩
   have hb0:b<w.heap.size:=by omega
   have bQ:kindOf (.mk 24 m s e [d,x])=vZ d:=by simp [kindOf,VT.kind,VT.list]
   rw [bQ]
   clear hel hld bQ hf hlen hl2
   rw [show ([d,x]:List VT).length=2 from rfl]
   obtain ⟨K,hK⟩:∃ K,vZ d=K:=⟨_,rfl⟩
   rw [hK]
   have HK:=ajd hK
   clear hK
   obtain ⟨dk,dm,ds,de,dl⟩:=d
   simp only [VT.kind,VT.num,VT.text,VT.elem,VT.list] at*
   by_cases hn:ZQ (.mk dk dm ds de dl)
   ·have h1:=hn.kind
    have h2:=hn.text
    have h3:=hn.elem
    have h4:=hn.list
    simp only [VT.kind,VT.text,VT.elem,VT.list] at h1 h2 h3 h4
    subst h1 h2 h3 h4
    have hemp:fE.toList=[]:=by rw [Lib.toList_data];rfl
    by_cases hle:dm≤120
    ·by_cases hne:fe dm=[]
     ·have HN:=ajd (sG hn hne)
      have hnb:(fC dm).toList=[]:=by rw [mO,hne]
      clear hn hne
      go_enter Tryz.func104,Tryz.ntmps104
      go_wp2_with (go_at_call 109;refine Calls.mono (EE dm (HSP.out _ ?_) (by omega) (by omega)) ?_;(repeat (first|exact Below.refl _ _|refine Below.alloc ?_ (by simp) _|refine Below.setCell ?_ (by simp) _));rintro r w2 ⟨rfl,hb2⟩)
      go_ret2
      refine ⟨by rw [←HK.out,HN.out];rfl,Below.trans ?_ (hb2.mono (by simp;omega))⟩
      (repeat (first|exact Below.refl _ _|refine Below.alloc ?_ (by simp) _|refine Below.setCell ?_ (by simp) _))
     ·have HN:=ajd (F9 hn hne)
      have hnb:(!(fC dm).toList.isEmpty)=true:=by rw [mO];simpa using hne
      clear hn hne
      go_enter Tryz.func104,Tryz.ntmps104
      go_wp2_with (go_at_call 109;refine Calls.mono (EE dm (HSP.out _ ?_) (by omega) (by omega)) ?_;(repeat (first|exact Below.refl _ _|refine Below.alloc ?_ (by simp) _|refine Below.setCell ?_ (by simp) _));rintro r w2 ⟨rfl,hb2⟩)
      go_ret2
      refine ⟨by rw [←HK.out,HN.out];rfl,Below.trans ?_ (hb2.mono (by simp;omega))⟩
      (repeat (first|exact Below.refl _ _|refine Below.alloc ?_ (by simp) _|refine Below.setCell ?_ (by simp) _))
    ·have HN:=ajd (sG hn (sF (.inr (by show 120<dm;omega))))
     clear hn
     go_enter Tryz.func104,Tryz.ntmps104
     go_wp2
     go_ret2
     refine ⟨by rw [←HK.out,HN.out];rfl,?_⟩
     (repeat (first|exact Below.refl _ _|refine Below.alloc ?_ (by simp) _|refine Below.setCell ?_ (by simp) _))
   ·by_cases hs:ZR (.mk dk dm ds de dl)
    ·have HS:=ajd hs
     have h1:=hs.kind
     have h2:=hs.num
     have h3:=hs.elem
     have h4:=hs.list
     simp only [VT.kind,VT.num,VT.elem,VT.list] at h1 h2 h3 h4
     subst h1 h2 h3 h4
     clear hs hn
     go_enter Tryz.func104,Tryz.ntmps104
     go_wp2_with (go_at_call 153;refine (Qd ds _ hx).mono ?_;rintro r w2 ⟨bb,rfl,hbb,rfl⟩;have NL:=ajd hbb;clear hbb)
     ·obtain ⟨W1,hW1⟩:∃ W1,(w.alloc (.cells #[.int .i64 24,.int .u64 m,.string s,.slice (some ⟨b,off,none⟩) 2 c,.int .i64 e] 25)).alloc (.cells #[.int .i64 20,.int .u64 0,.string ds,.slice p 0 c1,.int .i64 0] 25)=W1:=⟨_,rfl⟩
      have hz1:W1.heap.size=w.heap.size+2:=by rw [←hW1];simp
      have hc2:W1.cell? ⟨w.heap.size+1,2,none⟩=some (.string ds):=by rw [←hW1];simp
      have hb1:Below w.heap.size w W1:=by rw [←hW1];exact ((Below.refl _ _).alloc (Nat.le_refl _) _).alloc (by simp) _
      rw [hW1]
      have hbt:bb=true:=by assumption
      have aeY:Hid (ZP<+:ds.data.toList):=NL.out.1 hbt
      clear hW1 NL e0 e1 e2 e3 e4
      subst hbt
      go_loopw [6] (fun i wr=>∃ (q:Int),i= .int .i64 q∧16≤q∧q≤121∧Hid (∀ i,16≤i→i<q→fe i≠[]→ds≠fC i)∧Below (w.heap.size+2) W1 wr) (fun i _=>(121-intOf i).toNat)
      case atStart=>exact ⟨16,rfl,by omega,by omega,fun i h1 h2=>by omega,Below.refl _ _⟩
      case round=>
       obtain ⟨q,rfl,hq0,hq1,HQ,hb⟩:=hrel
       have d2:wr.cell? ⟨w.heap.size+1,2,none⟩=some (.string ds):=(hb.cell (p:=⟨w.heap.size+1,2,none⟩) (by simp)).trans hc2
       have hbw:Below w.heap.size w wr:=hb1.trans (hb.mono (by omega))
       have EF:=ajd hbw
       have wI:w.heap.size+2≤wr.heap.size:=by have:=hb.size;omega
       clear hbw
       by_cases hlt:q≤120
       ·have gu:Hid (∀ w',Below wr.heap.size wr w'→(Below wr.heap.size wr w'∧w'.cell? ⟨w.heap.size+1,2,none⟩=some (.string ds))):=fun w' h=>⟨h,(h.cell (p:=⟨w.heap.size+1,2,none⟩) (by show w.heap.size+1<wr.heap.size;omega)).trans d2⟩
        go_wp2
        go_region_held3 (fun w'=>Below wr.heap.size wr w'∧w'.cell? ⟨w.heap.size+1,2,none⟩=some (.string ds))
         (first
           |exact gu.out _ (Below.refl _ _)
           |exact gu.out _ (Below.refl _ _).drew
           |exact gu.out _ hb2
           |exact gu.out _ (((Below.refl _ _).drew).trans hb2)
           |assumption)
         ((go_at_call 109;refine (EE q (HSP.out _ (EF.out.drew)) (by omega) (by omega)).mono ?_;rintro r w2 ⟨rfl,hb2⟩;replace hb2:Below wr.heap.size wr.drew w2:=hb2))
        have hb3:Below (w.heap.size+2) W1 w2:=hb.trans ((((Below.refl _ _).drew).trans hb2).mono wI)
        clear gu
        go_wp2
        ·rename_i hte
         have heq:ds=fC q:=(toList_inj (by simpa using hte)).symm
         go_ret2
         have HN:=SF HS.out (k:=q) (fun h=>by
          have h':ds=fE:=h
          have:=aeY.out
          rw [h'] at this
          exact absurd this.length_le (by decide)) heq HQ.out
         exact ⟨by rw [←HK.out,HN];rfl,hb1.trans (hb3.mono (by omega))⟩
        ·rename_i hte
         have hne:¬ds=fC q:=fun h=>by rw [h] at hte;simp at hte
         go_roundw
         case rel=>exact ⟨q+1,rfl,by omega,by omega,aaG HQ.out hne,hb3⟩
         case measure=>simp [intOf];omega
       ·obtain rfl:q=121:=by omega
        go_wp2
        go_ret2
        have HN:=sH HS.out fun i h1 h2 h3=>HQ.out i h1 (by omega) h3
        exact ⟨by rw [←HK.out,HN];rfl,EF.out⟩
     ·go_ret2
      have HN:=sH HS.out fun i h1 h2 h3 h4=>by
       have hh:ds=fC i:=h4
       have:=NL.out.2 (by rw [hh];exact Ko h3)
       simp_all
      refine ⟨by rw [←HK.out,HN];rfl,?_⟩
      (repeat (first|exact Below.refl _ _|refine Below.alloc ?_ (by simp) _|refine Below.setCell ?_ (by simp) _))
    ·have HN:=ajd (Oa hn hs)
     have Hs:=ajd hs
     have Hn:=ajd hn
     clear hs hn
     go_enter Tryz.func104,Tryz.ntmps104
     go_wp2_with (first
      |(go_at_call 109;exfalso;exact Hn.out ⟨(by assumption:dk=5),ac1 (by assumption),(by assumption:de=0),(by assumption:dl=[])⟩)
      |(go_at_call 153;exfalso;exact Hs.out ⟨(by assumption:dk=20),(by assumption:dm=0),(by assumption:de=0),(by assumption:dl=[])⟩))
     all_goals
      go_ret2
      refine ⟨by rw [←HK.out,HN.out];rfl,?_⟩
      (repeat (first|exact Below.refl _ _|refine Below.alloc ?_ (by simp) _|refine Below.setCell ?_ (by simp) _))
 ·have bQ:kindOf (.mk k m s e l)=none:=by
   exact if_neg hd
  rw [bQ]
  have HD:=ajd hd
  clear hd hl
  go_enter Tryz.func104,Tryz.ntmps104
  go_wp2
  all_goals first
   |(go_ret2;exact ⟨rfl,(Below.refl _ _).alloc (Nat.le_refl _) _⟩)
   |(exfalso;exact HD.out ⟨(by assumption:k=24),BD (by assumption)⟩)
theorem MX {N B:Nat} {d:VT} {v:Value} {w:World} {t:TypeId} (h:Zu B w N v d) (hB:B≤w.heap.size)
 (hsp:w.heap[2]? =some (.cells (Lib.asciiSpaceTab.map fun z=>Value.int .u8 z).toArray t (0,0))):
 Calls Tryz.prog 104 #[v] w fun r w'=>r= .returned (lN (kindOf d))∧Below w.heap.size w w':=by
 obtain ⟨hf,lv,rfl,hl⟩:=h
 obtain ⟨k,m,s,e,l⟩:=d
 exact Ym hl hf hB hsp
end Go.Proofs.YtmldhjoolebjoaaGreatDoor.Va
namespace Go.Proofs.YtmldhjoolebjoaaGreatDoor.Va
open Go Go.RowKit Go.Shelf Nu
attribute [local go_sem] Oper.semAt_some
attribute [-go_sem] Go.Instr.loadAt Go.Instr.storeAt
abbrev encI {B:Nat} {w0:World} {N:Nat} (x:It B w0 N):Array Value:=#[.int .i64 x.d,x.t.agg x.lv]
theorem EG (F:Fence) (hd:F.depth=none) (h1:F.fn 112) (h2:F.fn 113) (hro:F.round=none) (n Bt br B N:Nat) (t:VT) (lv:Value) (w:World) (hBt:Bt<w.heap.size) (_hne:Bt≠br) (hBr:B≤br) (hBw:B≤w.heap.size) (hbr:br<w.heap.size) (hf:t.bD) (hl:bR B w N lv t.list) (hc:Cells w Bt 0 (t.cells lv)) (hn:nodes t≤900000000):
 SeqStopsK F n Tryz.prog 112 #[.pointer (some ⟨Bt,0,none⟩)] (encI (B:=B) (w0:=w) (N:=N)) (Kc br) (fun ys=>Rb t 1 ys∧Rc t 1 ys) (KM t 1) (nodes t) w:=fun l J Jx W hW hJ _ hY h0=>by
 have hdd:∀ k:Nat,(F.depth.isSome=true→1≤k):=fun k h=>by rw [hd] at h;cases h
 have hw:=acY F hd h2 hro l br B N (nodes t) w hBr hBw J Jx (fun s A C hs hg=>hJ s A C none hs hg (fun r e=>by cases e)) (fun m pre x W1 hj hlt=>MN hd m (hY pre x W1 hj hlt)) N (Nat.le_refl _) (n-1) t lv 1 [] W hf hl (Kc.of_below hW) (Nat.lt_of_lt_of_le hbr hW.size) h0 (by simp) (by omega)
 have l1:=ag (hc.below hW hBt)
 have HW:=ajd hw
 clear hw hf hl hc hY hJ h0 hW
 refine callsIn_of_wp Tryz.func112 rfl h1 ?_ hro
 simp only [Tryz.ntmps112,List.size_toArray,List.length_cons,List.length_nil,Nat.reduceAdd,Nat.reduceSub,Array.replicate_succ,Array.replicate_zero,List.push_toArray,List.append_toArray,List.nil_append,List.cons_append]
 gi_wp2_with ((try refine ⟨hdd _,?_⟩);gi_at_call 113;refine HW.out.mono ?_;rintro e W1 (⟨rfl,_,ys,_,hfull,hJ1⟩|⟨rfl,q,hq,hx⟩))
 ·go_end0
  exact ⟨⟨_,rfl⟩,.inl ⟨ys,hfull,by simpa using hJ1⟩⟩
 ·go_end0
  exact ⟨⟨_,rfl⟩,.inr ⟨q,hq,by simpa using hx⟩⟩
theorem RZ (F:Fence) (n:Nat) (h:F.fn 91) (hro:F.round=none) (t:VT) (lv:Value) (w:World):
 CallsIn F n Tryz.prog 91 #[t.agg lv] w fun e w'=>e= .returned (.func (.func 112) #[] #[.pointer (some ⟨w.heap.size,0,none⟩)])∧w'=w.alloc (.cells (t.cells lv).toArray 25):=by
 refine callsIn_of_wp Tryz.func91 rfl h ?_ hro
 simp only [Tryz.ntmps91,List.size_toArray,List.length_cons,List.length_nil,Nat.reduceAdd,Nat.reduceSub,Array.replicate_succ,Array.replicate_zero,List.push_toArray,List.append_toArray,List.nil_append,List.cons_append]
 gi_wp2
 go_ret
 exact ⟨rfl,rfl⟩
end Go.Proofs.YtmldhjoolebjoaaGreatDoor.Va
namespace Go.Proofs.YtmldhjoolebjoaaGreatDoor.Va
open Go Go.RowKit Go.Shelf Nu
attribute [local go_sem] Oper.semAt_some
theorem zg {w:World} {a:Addr} {v:Value} (h:w.cell? a=some v):(loadVar 38 a).run Tryz.prog w= .ok v w:=by
 have:=Tryz.underlying38
 have:=Tryz.sizeOf38
 go_simp
theorem EH {w:World} {b o:Nat} {k:Int} {u:Value} (hc:w.cell? ⟨b,o,none⟩=some u) (hf:w.frozen? ⟨b,o,none⟩=false):(Instr.storeAt 38 (.pointer (some ⟨b,o,none⟩)) (.int .i64 k)).run Tryz.prog w= .ok () (w.setCell ⟨b,o,none⟩ (.int .i64 k)):=by
 have:=Tryz.underlying38
 have:=Tryz.sizeOf38
 go_simp
attribute [-go_sem] Go.Instr.loadAt Go.Instr.storeAt
theorem uM {br:Nat} {W W':World} {row:Option Nat} (hg:W.grownBy W' row) (hr:∀ r,row=some r→∃ o:Obj,W.heap[r]? =some o∧o.isCells=false) (hlo:∀ r,row=some r→br-1≤r):Kc br W W':=
 ⟨hg.os,hg.tape,hg.output,hg.size,fun k _ _ _ _ hh=>(hg.block k (Array.getElem?_eq_some_iff.1 hh).1 (fun e=>by
   obtain ⟨o,ho,hc⟩:=hr k e.symm
   rw [hh] at ho;cases ho;cases hc)).trans hh,fun k h1 h2=>hg.block k h2 (fun e=>by have:=hlo k e.symm;omega)⟩
theorem aeZ {br:Nat} {w:World} (hbr:br≤w.heap.size) (W:World) (l:Nat) (o o':Obj) (hl:w.heap.size≤l) (h:W.heap[l]? =some o) (ho:o.isCells=false) (_:o.isWalk=false):Kc br W (W.putObj l o'):=
 uM (grownBy_putObj' W l o') (fun r e=>by cases e;exact ⟨o,h,ho⟩) (fun r e=>by cases e;omega)
theorem jQ {B:Nat} {W W':World} (h:Below W.heap.size W W'):KeepsFrom B W W':=
 (show KeepsOthers W W' from ⟨h.size,fun k _ hk _=>(h.block k (Array.getElem?_eq_some_iff.1 hk).1).trans hk⟩).from B
def CI {B:Nat} {w0:World} {N:Nat} (br:Nat) (pre:List (It B w0 N)) (W:World):Prop:=(∀ y∈pre,y.ok)∧Kc br w0 W∧W.cell? ⟨br,0,none⟩=some (.int .i64 0)∧W.frozen? ⟨br,0,none⟩=false∧br<W.heap.size
def CX {B:Nat} {w0:World} {N:Nat} (br:Nat) (c:Code) (pre:List (It B w0 N)) (W:World):Prop:=c= .ret∧Kc br w0 W∧∃ q y,pre=q++[y]∧(∀ z∈q,z.ok)∧¬y.ok∧W.cell? ⟨br,0,none⟩=some (.int .i64 (cz y.t y.d))
theorem CI.own {B:Nat} {w0:World} {N br B':Nat} (hbr:br-1≤B'):OwnFrom B' (CI (B:=B) (w0:=w0) (N:=N) br):=fun s W W' row h hg hr=>by
 obtain ⟨h1,h2,h3,h4,h5⟩:=h
 have hr':∀ r,row=some r→∃ o:Obj,W.heap[r]? =some o∧o.isCells=false:=fun r e=>(hr r e).2
 exact ⟨h1,h2.trans (uM hg hr' fun r e=>Nat.le_trans hbr (hr r e).1),cell_kept h3 hg hr',(frozen_kept h3 hg hr').trans h4,Nat.lt_of_lt_of_le h5 hg.size⟩
theorem CX.own {B:Nat} {w0:World} {N br B':Nat} (hbr:br-1≤B') (c:Code):OwnFrom B' (CX (B:=B) (w0:=w0) (N:=N) br c):=fun s W W' row h hg hr=>by
 obtain ⟨h1,h2,q,y,h3,h4,h5,h6⟩:=h
 have hr':∀ r,row=some r→∃ o:Obj,W.heap[r]? =some o∧o.isCells=false:=fun r e=>(hr r e).2
 exact ⟨h1,h2.trans (uM hg hr' fun r e=>Nat.le_trans hbr (hr r e).1),q,y,h3,h4,h5,cell_kept h6 hg hr'⟩
theorem Kc.setCell {br:Nat} {a w:World} (h:Kc br a w) (j:Nat) (u:Value):Kc br a (w.setCell ⟨br,j,none⟩ u):=
 h.trans ⟨rfl,rfl,rfl,by simp [World.setCell],fun k cs T fr hk hh=>(Below.heap_setCell w ⟨br,j,none⟩ u k hk).trans hh,fun k h1 _=>Below.heap_setCell w ⟨br,j,none⟩ u k (by show k≠br;omega)⟩
theorem MZ {W W':World} {row:Option Nat} {b o:Nat} {cs:List Value} (h:Cells W b o cs) (hg:W.grownBy W' row) (hr:∀ r,row=some r→∃ o:Obj,W.heap[r]? =some o∧o.isCells=false):Cells W' b o cs:=fun j u hu=>cell_kept (h j u hu) hg hr
theorem zh {P:Program} {fn:Func} {p:Tmp} {ty:TypeId} {tmps:Array Value} {w:World} {g:Nat} {v:Value} (h:fn.results= #[.cell p ty]) (hp:tmps.getD p undef= .pointer (some ⟨g,0,none⟩)) (hld:(loadVar ty ⟨g,0,none⟩).run P w= .ok v w):
 (results fn tmps).run P w= .ok v w:=by
 have hp':tmps[p]?.getD undef= .pointer (some ⟨g,0,none⟩):=by simpa using hp
 simp [results,h,hp',asAddr,hld]
theorem M0 {V:World} {D:Nat} {a:Addr} {v:Value} (hK:V.heap[D]? =some (.deferred (some []))) (h:V.cell? a=some v):(V.putObj D (.deferred none)).cell? a=some v:=
 cell_kept h (grownBy_putObj' V D _) (fun r e=>by cases e;exact ⟨_,hK,rfl⟩)
theorem Qe {br:Nat} {V:World} {D:Nat} (hD:br-1≤D) (hK:V.heap[D]? =some (.deferred (some []))):Kc br V (V.putObj D (.deferred none)):=
 uM (grownBy_putObj' V D _) (fun r e=>by cases e;exact ⟨_,hK,rfl⟩) (fun r e=>by cases e;exact hD)
theorem Yn {Tb:World→Prop} (HAl:∀ (N B:Nat) (t:VT) (lv:Value) (d:Int) (W:World),t.bD→bR B W N lv t.list→B≤W.heap.size→Tb W→Calls Tryz.prog 92 #[t.agg lv,.int .i64 d] W fun r w'=>r= .returned (.int .i64 (cz t d))∧Below W.heap.size W w')
 {N:Nat} (t:VT) (lv:Value) (w:World) (hTb:∀ W,Kc (w.heap.size+1) w W→Tb W) (hf:t.bD) (hl:bR w.heap.size w N lv t.list) (hn:nodes t≤900000000):
 Calls Tryz.prog 75 #[t.agg lv] w fun r w'=>r= .returned (.int .i64 (aB t 1))∧Kc (w.heap.size+1) w w':=by
 refine (callsIn_wide (n:=8)).1 ?_
 obtain ⟨W1,hW1⟩:∃ W1,(w.alloc (.cells #[.int .i64 t.kind,.int .u64 t.num,.string t.text,lv,.int .i64 t.elem] 25)).alloc (.cells #[.int .i64 0] 38)=W1:=⟨_,rfl⟩
 obtain ⟨b1,b2,b3,b4⟩:=Ct hW1
 have k1:Cells W1 w.heap.size 0 (t.cells lv):=Cells.of_heap (cs:=t.cells lv) b1
 have l1:=ag k1
 obtain ⟨W2,hW2⟩:∃ W2,W1.alloc (.cells (t.cells lv).toArray 25)=W2:=⟨_,rfl⟩
 obtain ⟨d1,d2,d3⟩:=kP hW2
 have k2:Cells W2 W1.heap.size 0 (t.cells lv):=Cells.of_heap (cs:=t.cells lv) d1
 have hbw:Below w.heap.size w W2:=b4.trans (d3.mono (by omega))
 have c2:W2.heap[w.heap.size+1]? =some (.cells #[.int .i64 0] 38 (0,0)):=(d3.block _ (by omega)).trans b2
 have h0:CI (B:=w.heap.size) (w0:=W2) (N:=N) (w.heap.size+1) [] W2:=⟨by simp,Kc.refl _ _,by simp [World.cell?,c2],by simp [World.frozen?,c2],by omega⟩
 have hst:=EG Fence.wide rfl trivial trivial rfl (8-1) W1.heap.size (w.heap.size+1) w.heap.size N t lv W2 (by omega) (by omega) (by omega) (by omega) (by omega) hf (hl.below hbw) k2 hn
 have HKw:=ajd (Kc.of_below (br:=w.heap.size+1) hbw)
 have gE:Fence.wide.fn 91:=trivial
 refine callsIn_of_wp_marks Tryz.func75 rfl trivial ?_ rfl
 simp only [Tryz.ntmps75,List.size_toArray,List.length_cons,List.length_nil,Nat.reduceAdd,Nat.reduceSub,Array.replicate_succ,Array.replicate_zero,List.push_toArray,List.append_toArray,List.nil_append,List.cons_append]
 gi_wp2_with (gi_at_call 91;refine (RZ Fence.wide _ trivial rfl t lv _).mono ?_;rintro e w' ⟨rfl,rfl⟩;rw [hW2])
 rw [b3] at hst
 clear hW1 hW2 l1 k1 b1 b2 b4 d1 d3 c2
 have hzz:w.heap.size+2<W2.heap.size:=by omega
 refine wpIn_rangeFunc_ownH rfl (by decide) (gf:=112) (lb:=#[.pointer (some ⟨w.heap.size+2,0,none⟩)]) rfl trivial (enters_of Tryz.func112 (by kernel_rfl) rfl)
  hst Kc.trans (aeZ (by omega)) (Below.refl _ _) (fun _=>rfl)
  (CI (w.heap.size+1)) (CX (w.heap.size+1)) (CI.own (by omega)) (CX.own (by omega)) h0
  (fun x a' W=>∃ Bx,Cells W Bx 0 (x.t.cells x.lv)∧a'= {tmps:=#[t.agg lv,.pointer (some ⟨w.heap.size,0,none⟩),.pointer (some ⟨w.heap.size+1,0,none⟩),.int .i64 x.d,.pointer (some ⟨Bx,0,none⟩),undef,t.agg lv,.func (.func 112) #[] #[.pointer (some ⟨w.heap.size+2,0,none⟩)],.int .i64 x.d,x.t.agg x.lv,undef,undef,undef,undef,undef,undef],defers:=[]})
  ?hAx ?assign ?body ?done ?stop
 case hAx=>
  rintro x a' _ A C row ⟨Bx,hc,rfl⟩ hg hr
  exact ⟨Bx,MZ hc hg (fun r e=>(hr r e).2),rfl⟩
 case assign=>
  rintro l pre x W K hI hK
  obtain ⟨p,c,hx⟩:=x.vX.slice
  simp only [encI,hx] at hK ⊢
  obtain ⟨V1,V2,hV1,st1,kv,kb,kg⟩:=Ey W x.t p x.t.list.length c
  have KV:=ajd kv
  have KB:=ajd kb
  have KG:=ajd kg
  clear kv kb kg
  gi_wp2
  exact hK _ _ (jQ KB.out) (Kc.of_below KB.out) (CI.own (B':=w.heap.size) (by omega) _ _ _ none hI KG.out (fun r e=>by cases e)) ⟨_,KV.out,rfl⟩
 case body=>
  rintro l pre x a' W hl hr hI ⟨Bx,hcx,rfl⟩ hlt
  have lx:=ag hcx
  have hlat:=x.vX.kc hI.2.1 (by omega)
  have HA:=HAl N w.heap.size x.t x.lv x.d W x.fine hlat (by have:=hI.2.2.2.2;omega) (hTb W (HKw.out.trans hI.2.1))
  obtain ⟨k,hk⟩:∃ k,cz x.t x.d=k:=⟨_,rfl⟩
  rw [hk] at HA
  have HAh:=ajd HA
  have HI:=ajd hI
  have HKk:=ajd hk
  clear HA hI hk hcx hlat
  have gA:(Fence.wide.inRound l).fn 92:=trivial
  have gA2:Fence.wide.fn 92:=trivial
  by_cases h0:k=0
  ·subst h0
   gi_wp2_with (gi_at_call 92;refine (CallsIn.inRound l (callsIn_wide.2 HAh.out)).mono ?_;rintro e W3 ⟨rfl,hb3⟩)
   obtain ⟨i1,i2,i3,i4,i5⟩:=HI.out
   exact ⟨jQ hb3,Kc.of_below hb3,fun y hy=>by
    rcases List.mem_append.1 hy with h|h
    ·exact i1 y h
    ·obtain rfl:y=x:=by simpa using h
     exact HKk.out,i2.trans (Kc.of_below hb3),(hb3.cell (p:=⟨w.heap.size+1,0,none⟩) i5).trans i3,(hb3.frozen (p:=⟨w.heap.size+1,0,none⟩) i5).trans i4,Nat.lt_of_lt_of_le i5 hb3.size⟩
  ·have hne:(k !=0)=true:=by simp [h0]
   gi_wp2_with (gi_at_call 92;refine (CallsIn.inRound l (callsIn_wide.2 HAh.out)).mono ?_;rintro e W3 ⟨rfl,hb3⟩
                have Qf:=EH (k:=k) ((hb3.cell (p:=⟨w.heap.size+1,0,none⟩) HI.out.2.2.2.2).trans HI.out.2.2.1) ((hb3.frozen (p:=⟨w.heap.size+1,0,none⟩) HI.out.2.2.2.2).trans HI.out.2.2.2.1))
   have HST:=ajd hb3
   obtain ⟨i1,i2,i3,i4,i5⟩:=HI.out
   exact ⟨(jQ hb3).trans ((KeepsOthers.setCell _ _ _).from _),rfl,Kc.setCell (i2.trans (Kc.of_below hb3)) 0 _,pre,x,rfl,i1,(by intro h;exact h0 (HKk.out.symm.trans h)),by rw [HKk.out];exact World.cell?_setCell_same _ _ _ ((hb3.cell (p:=⟨w.heap.size+1,0,none⟩) i5).trans i3)⟩
 case done=>
  rintro D ys W hD hfull ⟨i1,i2,i3,i4,i5⟩ hK
  have Qf:=EH (k:=0) i3 i4
  have HV:Hid (aB t 1=0):=hfull.1 i1
  have hK':(W.setCell ⟨w.heap.size+1,0,none⟩ (.int .i64 0)).heap[D]? =some (.deferred (some [])):=(Below.heap_setCell _ _ _ _ (by show D≠w.heap.size+1;omega)).trans hK
  have hc':=World.cell?_setCell_same W ⟨w.heap.size+1,0,none⟩ (.int .i64 0) i3
  have HKe:=ajd ((Kc.setCell (HKw.out.trans i2) 0 (.int .i64 0)).trans (Qe (by omega) hK'))
  have HC:=ajd (zg (M0 hK' hc'))
  have HKd:=ajd hK'
  clear hK hK' hc' i1 i2 i3 i4 i5 hfull
  gi_wp2
  refine ⟨by simp,.inl ⟨_,_,rfl,run_takeDeferred HKd.out,?_⟩⟩
  exact ⟨_,zh rfl rfl HC.out,by rw [HV.out],HKe.out⟩
 case stop=>
  rintro D c pre W hD hq ⟨rfl,hk,q,y,rfl,hok,hny,hc⟩ hK
  have HV:Hid (aB t 1=cz y.t y.d):=hq.2 q y rfl hok hny
  have HKe:=ajd ((HKw.out.trans hk).trans (Qe (by omega) hK))
  have HC:=ajd (zg (M0 hK hc))
  have HKd:=ajd hK
  clear hk hok hny hc hK hq
  gi_wp2
  refine ⟨by simp,.inl ⟨_,_,rfl,run_takeDeferred HKd.out,?_⟩⟩
  exact ⟨_,zh rfl rfl HC.out,by rw [HV.out],HKe.out⟩
end Go.Proofs.YtmldhjoolebjoaaGreatDoor.Va
namespace Go.Proofs.YtmldhjoolebjoaaGreatDoor.Va
open Go Go.RowKit Go.Shelf Nu
attribute [local go_sem] Oper.semAt_some
theorem Hl {w:World} {a:Addr} {v:Value} (h:w.cell? a=some v):(Instr.loadAt 3 (.pointer (some a))).run Tryz.prog w= .ok v w:=by
 have:=Tryz.underlying3
 have:=Tryz.sizeOf3
 go_simp
theorem rC {w:World} {b o:Nat} {k:Int} {u:Value} (hc:w.cell? ⟨b,o,none⟩=some u) (hf:w.frozen? ⟨b,o,none⟩=false):(Instr.storeAt 3 (.pointer (some ⟨b,o,none⟩)) (.int .i64 k)).run Tryz.prog w= .ok () (w.setCell ⟨b,o,none⟩ (.int .i64 k)):=by
 have:=Tryz.underlying3
 have:=Tryz.sizeOf3
 go_simp
attribute [-go_sem] Go.Instr.loadAt Go.Instr.storeAt
def DI {B:Nat} {w0:World} {N:Nat} (br:Nat) (pre:List (It B w0 N)) (W:World):Prop:=Kc br w0 W∧W.cell? ⟨br,0,none⟩=some (.int .i64 (maxD 0 pre))∧W.frozen? ⟨br,0,none⟩=false∧br<W.heap.size
theorem DI.own {B:Nat} {w0:World} {N br B':Nat} (hbr:br-1≤B'):OwnFrom B' (DI (B:=B) (w0:=w0) (N:=N) br):=fun s W W' row h hg hr=>by
 obtain ⟨h2,h3,h4,h5⟩:=h
 have hr':∀ r,row=some r→∃ o:Obj,W.heap[r]? =some o∧o.isCells=false:=fun r e=>(hr r e).2
 exact ⟨h2.trans (uM hg hr' fun r e=>Nat.le_trans hbr (hr r e).1),cell_kept h3 hg hr',(frozen_kept h3 hg hr').trans h4,Nat.lt_of_lt_of_le h5 hg.size⟩
theorem UO {N:Nat} (t:VT) (lv:Value) (w:World) (hf:t.bD) (hl:bR w.heap.size w N lv t.list) (hn:nodes t≤900000000):
 Calls Tryz.prog 95 #[t.agg lv] w fun r w'=>r= .returned (.int .i64 (gV t:Nat))∧Kc (w.heap.size+1) w w':=by
 refine (callsIn_wide (n:=8)).1 ?_
 obtain ⟨W1,hW1⟩:∃ W1,(w.alloc (.cells #[.int .i64 t.kind,.int .u64 t.num,.string t.text,lv,.int .i64 t.elem] 25)).alloc (.cells #[.int .i64 0] 3)=W1:=⟨_,rfl⟩
 obtain ⟨b1,b2,b3,b4⟩:=Ct hW1
 have e0:W1.cell? ⟨w.heap.size+1,0,none⟩=some (.int .i64 0):=by simp [World.cell?,b2]
 have e1:W1.frozen? ⟨w.heap.size+1,0,none⟩=false:=by simp [World.frozen?,b2]
 have ae3:=rC (k:=0) e0 e1
 have hsame:W1.setCell ⟨w.heap.size+1,0,none⟩ (.int .i64 0)=W1.setCell ⟨w.heap.size+1,0,none⟩ (.int .i64 0):=rfl
 clear hsame
 obtain ⟨V1,hV1⟩:∃ V1,W1.setCell ⟨w.heap.size+1,0,none⟩ (.int .i64 0)=V1:=⟨_,rfl⟩
 rw [hV1] at ae3
 have v1:V1.heap[w.heap.size]? =some (.cells #[.int .i64 t.kind,.int .u64 t.num,.string t.text,lv,.int .i64 t.elem] 25 (0,0)):=by rw [←hV1];exact (Below.heap_setCell _ _ _ _ (by simp)).trans b1
 have v2:V1.cell? ⟨w.heap.size+1,0,none⟩=some (.int .i64 0):=by rw [←hV1];exact World.cell?_setCell_same _ _ _ e0
 have v3:V1.frozen? ⟨w.heap.size+1,0,none⟩=false:=by rw [←hV1,World.frozen?_setCell];exact e1
 have v4:V1.heap.size=w.heap.size+2:=by rw [←hV1];simp [World.setCell,b3]
 have v5:Below w.heap.size w V1:=by rw [←hV1];exact b4.setCell (p:=⟨w.heap.size+1,0,none⟩) (Nat.le_succ _) _
 clear hV1 e0 e1 b1 b2 b4
 have k1:Cells V1 w.heap.size 0 (t.cells lv):=Cells.of_heap (cs:=t.cells lv) v1
 have l1:=ag k1
 obtain ⟨W2,hW2⟩:∃ W2,V1.alloc (.cells (t.cells lv).toArray 25)=W2:=⟨_,rfl⟩
 obtain ⟨d1,d2,d3⟩:=kP hW2
 have k2:Cells W2 V1.heap.size 0 (t.cells lv):=Cells.of_heap (cs:=t.cells lv) d1
 have hbw:Below w.heap.size w W2:=v5.trans (d3.mono (by omega))
 have h0:DI (B:=w.heap.size) (w0:=W2) (N:=N) (w.heap.size+1) [] W2:=⟨Kc.refl _ _,(d3.cell (p:=⟨w.heap.size+1,0,none⟩) (by show w.heap.size+1<_;omega)).trans v2,(d3.frozen (p:=⟨w.heap.size+1,0,none⟩) (by show w.heap.size+1<_;omega)).trans v3,by omega⟩
 have hst:=EG Fence.wide rfl trivial trivial rfl (8-1) V1.heap.size (w.heap.size+1) w.heap.size N t lv W2 (by omega) (by omega) (by omega) (by omega) (by omega) hf (hl.below hbw) k2 hn
 have HKw:=ajd (Kc.of_below (br:=w.heap.size+1) hbw)
 have gE:Fence.wide.fn 91:=trivial
 refine callsIn_of_wp_marks Tryz.func95 rfl trivial ?_ rfl
 simp only [Tryz.ntmps95,List.size_toArray,List.length_cons,List.length_nil,Nat.reduceAdd,Nat.reduceSub,Array.replicate_succ,Array.replicate_zero,List.push_toArray,List.append_toArray,List.nil_append,List.cons_append]
 gi_wp2_with (gi_at_call 91;refine (RZ Fence.wide _ trivial rfl t lv _).mono ?_;rintro e w' ⟨rfl,rfl⟩;rw [hW2])
 rw [v4] at hst
 clear hW1 hW2 l1 k1 d1 d3 v1 v2 v3 v5 ae3
 have hzz:w.heap.size+2<W2.heap.size:=by omega
 refine wpIn_rangeFunc_ownH rfl (by decide) (gf:=112) (lb:=#[.pointer (some ⟨w.heap.size+2,0,none⟩)]) rfl trivial (enters_of Tryz.func112 (by kernel_rfl) rfl)
  hst Kc.trans (aeZ (by omega)) (Below.refl _ _) (fun _=>rfl)
  (DI (w.heap.size+1)) (fun _ _ _=>False) (DI.own (by omega)) (fun _ _ _ _ _ hs _ _=>hs) h0
  (fun x a' W=>a'= {tmps:=#[t.agg lv,.pointer (some ⟨w.heap.size,0,none⟩),.int .i64 0,.pointer (some ⟨w.heap.size+1,0,none⟩),.int .i64 x.d,t.agg lv,.func (.func 112) #[] #[.pointer (some ⟨w.heap.size+2,0,none⟩)],.int .i64 x.d,x.t.agg x.lv,undef,undef,undef,undef],defers:=[]})
  ?hAx ?assign ?body ?done ?stop
 case hAx=>
  rintro x a' _ A C row h hg hr
  exact h
 case assign=>
  rintro l pre x W K hI hK
  gi_wp2
  exact hK _ _ (jQ (Below.refl _ _)) (Kc.refl _ _) hI rfl
 case body=>
  rintro l pre x a' W hl hr ⟨i1,i2,i3,i4⟩ rfl hlt
  have lx:=Hl i2
  have hs1:=rC (k:=maxD 0 pre) i2 i3
  have hs2:=rC (k:=x.d) i2 i3
  have hs3:=rC (k:=max (maxD 0 pre) x.d) i2 i3
  have HN:Hid (∀ k:Int,k=max (maxD 0 pre) x.d→KeepsFrom W2.heap.size W (W.setCell ⟨w.heap.size+1,0,none⟩ (.int .i64 k))∧Kc (w.heap.size+1) W (W.setCell ⟨w.heap.size+1,0,none⟩ (.int .i64 k))∧DI (w.heap.size+1) (pre++[x]) (W.setCell ⟨w.heap.size+1,0,none⟩ (.int .i64 k))):=fun k hk=>
   ⟨(KeepsOthers.setCell _ _ _).from _,Kc.setCell (Kc.refl _ _) 0 _,Kc.setCell i1 0 _,by rw [World.cell?_setCell_same _ _ _ i2,hk];simp [maxD],(World.frozen?_setCell ..).trans i3,by simpa [World.setCell] using i4⟩
  clear i1 i2 i3 i4 d2
  gi_wp2
  all_goals exact HN.out _ (by omega)
 case done=>
  rintro D ys W hD ⟨_,hfull⟩ ⟨i1,i2,i3,i4⟩ hK
  have lx:=Hl i2
  have HV:Hid (maxD 0 ys=(gV t:Nat)):=by show _=_;rw [hfull 0];omega
  have HKe:=ajd ((HKw.out.trans i1).trans (Qe (by omega) hK))
  have HKd:=ajd hK
  clear i1 i2 i3 i4 hK hfull
  gi_wp2
  refine ⟨by simp,.inl ⟨_,_,rfl,run_takeDeferred HKd.out,?_⟩⟩
  exact ⟨_,results_tmp rfl _ _ _,by rw [←HV.out];rfl,HKe.out⟩
 case stop=>
  rintro D c pre W hD hq h hK
  exact h.elim
end Go.Proofs.YtmldhjoolebjoaaGreatDoor.Va
