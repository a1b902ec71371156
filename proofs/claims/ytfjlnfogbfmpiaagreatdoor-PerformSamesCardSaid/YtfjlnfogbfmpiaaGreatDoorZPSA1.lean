/-
  The texts NuShapeB NuWalk NuShapeC NuPack NuNodes NuLat NuGrw of this claim, one behind the other.
-/
import Derived.Test.YtfjlnfogbfmpiaaGreatDoorZPSA0
namespace Go.Proofs.Nu
open Go Go.RowKit
theorem eqT_kind {a b:VT} (h:eqT a b=true):a.kind=b.kind:=by rw [(eqT_iff a b).1 h]
def Plain (rd:Rd):Prop:=∀ f x,f.type≠102→rd f x= .ok x
def Stay (rd:Rd):Prop:=∀ f x y,x.kind≠0→wantedT f x=true→rd f x= .ok y→rd f y= .ok y∧wantedT f y=true∧y.kind≠0
theorem readF_plain:∀ n,Plain (readF n)
 |0=>fun f x h=>by show readG _ _ f x=_;unfold readG;rw [if_neg h]
 |n+1=>fun f x h=>by show readG _ _ f x=_;unfold readG;rw [if_neg h]
theorem readR_plain:∀ n,Plain (readR n)
 |0=>fun f x h=>by show readG _ _ f x=_;unfold readG;rw [if_neg h]
 |n+1=>fun f x h=>by show readG _ _ f x=_;unfold readG;rw [if_neg h]
theorem wanted_sym {f:FT} (h:f.type=101) {v:VT} (hw:wantedT f v=true):v.kind=23:=by
 unfold wantedT at hw
 rw [if_neg (by omega),if_pos h] at hw
 simp only [Bool.and_eq_true,decide_eq_true_eq] at hw
 exact hw.1
theorem wanted_arr {f:FT} (h:f.type=101) (x:VT):wantedT f (symArr x)=true:=by
 unfold wantedT
 rw [if_neg (by omega),if_pos h];rfl
theorem item_again {rd:Rd} (hp:Plain rd) (hs:Stay rd) {f:FT} (hg:fieldGood f=true) {x y:VT} (h:itemG rd f x= .ok y):itemG rd f (itemP rd f y)= .ok y∧(itemP rd f y=zeroT∨itemP rd f y=y):=by
 unfold itemG at h
 split at h
 ·rename_i hx
  split at h
  ·cases h
  ·rename_i hm
   cases h
   have e:itemP rd f f.dflt=zeroT:=by unfold itemP;rw [if_pos (.inr (eqT_self _))]
   rw [e]
   exact ⟨by unfold itemG;rw [if_pos (show zeroT.kind=0 from rfl),if_neg hm],.inl rfl⟩
 ·rename_i hx
  split at h
  ·rename_i ht
   cases h
   have hd:=good_sym hg ht.1
   have e:itemP rd f (symArr x)=symArr x:=by
    unfold itemP
    rw [if_neg,hp f _ (by omega)]
    ·rfl
    ·rintro (h|h)
     ·cases h
     ·have:=eqT_kind h;rw [hd] at this;cases this
   rw [e]
   refine ⟨?_,.inr rfl⟩
   unfold itemG
   rw [if_neg (show ¬(symArr x).kind=0 from fun h=>by cases h),if_neg (by rintro ⟨_,h⟩;cases h),if_pos (wanted_arr ht.1 x),hp f _ (by omega)]
  ·rename_i hns
   split at h
   ·rename_i hw
    obtain ⟨h1,h2,h3⟩:=hs f x y hx hw h
    unfold itemP
    split
    ·rename_i hc
     have hd:eqT y f.dflt=true:=hc.resolve_left h3
     have ey:=(eqT_iff _ _).1 hd
     refine ⟨?_,.inl rfl⟩
     unfold itemG
     rw [if_pos (show zeroT.kind=0 from rfl),if_neg,ey]
     intro hm
     rw [good_must hg hm] at ey
     exact h3 (by rw [ey];rfl)
    ·rw [h1]
     refine ⟨?_,.inr rfl⟩
     show itemG rd f y=_
     unfold itemG
     rw [if_neg h3,if_neg (by rintro ⟨ht,h⟩;have:=wanted_sym ht h2;omega),if_pos h2,h1]
   ·cases h
theorem zip_get {α β γ:Type} {g:α→β→γ}:∀ {a:List α} {b:List β} {i:Nat} {x:α} {y:β},a[i]? =some x→b[i]? =some y→(List.zipWith g a b)[i]? =some (g x y):=fun h h'=>by
 rw [List.getElem?_zipWith,h,h']
theorem pack_again {rd:Rd} (hp:Plain rd) (hs:Stay rd) {v:VT} {k:Int} {l:List VT} (h:unpackG rd v= .ok (k,l)):unpackG rd (packG rd k l)= .ok (k,l):=by
 obtain ⟨fs,hk,hf,d,x,h3,h4,h5,h6⟩:=unpackG_ok h
 obtain ⟨hl,hi⟩:=itemsG_ok h6
 unfold packG
 rw [hf]
 refine unpackG_of (fs:=fs) ⟨kindOf_packV hf _,hf,_,_,rfl,rfl,?_,itemsG_of hl fun j f y hj hy=>?_⟩
 ·refine Nat.le_trans (trim_len _) ?_
  rw [Option.getD_some,List.length_zipWith,hl,Nat.min_self];exact Nat.le_refl _
 ·have hit:=(item_again hp hs (field_good hf (List.mem_of_getElem? hj)) (hi j f y hj hy)).1
  have hz:(List.zipWith (itemP rd) fs l)[j]? =some (itemP rd f y):=zip_get hj hy
  rw [Option.getD_some,←hit]
  rcases trim_get (List.zipWith (itemP rd) fs l) j with e|⟨e1,e2⟩
  ·show itemG rd f (((trimT (List.zipWith (itemP rd) fs l))[j]?).getD zeroT)=_
   rw [e,hz];rfl
  ·rw [hz] at e2
   show itemG rd f (((trimT (List.zipWith (itemP rd) fs l))[j]?).getD zeroT)=_
   rw [e1]
   exact itemG_kind0 rd f rfl e2
theorem stayF:∀ n,Stay (readF n)
 |0=>fun f x y hx hw h=>by
  by_cases ht:f.type=102
  ·have h:readG _ _ f x=_:=h
   unfold readG at h
   rw [if_pos ht] at h
   cases h
  ·rw [readF_plain 0 f x ht] at h
   cases h
   exact ⟨readF_plain 0 f x ht,hw,hx⟩
 |n+1=>fun f x y hx hw h=>by
  by_cases ht:f.type=102
  ·have h:readG _ _ f x=_:=h
   unfold readG at h
   rw [if_pos ht] at h
   split at h
   ·cases h
   ·rename_i a ha
    obtain ⟨k,l⟩:=a
    cases h
    have h2:=pack_again (readF_plain n) (stayF n) ha
    obtain ⟨fs,hk,hf,_⟩:=unpackG_ok ha
    refine ⟨?_,?_,fun e=>by cases e⟩
    ·show readG _ _ f _=_
     unfold readG
     rw [if_pos ht,h2]
    ·unfold wantedT at hw ⊢
     rw [if_neg (by omega),if_neg (by omega),if_pos ht] at hw ⊢
     unfold packG
     rw [kindOf_packV hf]
     rw [hk] at hw
     exact hw
  ·rw [readF_plain (n+1) f x ht] at h
   cases h
   exact ⟨readF_plain (n+1) f x ht,hw,hx⟩
theorem alone_mono {t:VT} {d d':Int} (h:aloneT t d=0) (hd:d'≤32):aloneT t d'=0:=by
 have h2:=alone_deep h
 unfold aloneT at h ⊢
 split at h
 ·cases h
 ·rename_i h0
  rw [if_neg h0,if_neg (by omega)]
  rw [if_neg (by omega)] at h
  exact h
mutual
theorem check_mono:∀ (t:VT) {d d':Int},d'≤d→checkT t d=0→checkT t d'=0
 | .mk k m s e l,d,d',hd,h=>by
   rw [checkT] at h ⊢
   split at h
   ·rename_i h1;exact absurd h h1
   ·rename_i h1
    have h1:aloneT (.mk k m s e l) d=0:=by simpa using h1
    have h2:=alone_mono (d':=d') h1 (by have:=alone_deep h1;omega)
    rw [if_neg (by simp [h2])]
    exact checks_mono l (by omega) h
theorem checks_mono:∀ (l:List VT) {d d':Int},d'≤d→checkTs l d=0→checkTs l d'=0
 |[],d,d',_,_=>by rw [checkTs]
 |t::r,d,d',hd,h=>by
  rw [checkTs] at h ⊢
  split at h
  ·rename_i h1;exact absurd h h1
  ·rename_i h1
   have h1:checkT t d=0:=by simpa using h1
   rw [if_neg (by simp [check_mono t hd h1])]
   exact checks_mono r hd h
end
theorem checkT_iff (t:VT) (d:Int):checkT t d=0↔aloneT t d=0∧checkTs t.list (d+1)=0:=by
 rw [checkT_eq]
 by_cases h:aloneT t d=0<;>simp [h]
theorem checkTs_iff:∀ (l:List VT) (d:Int),checkTs l d=0↔∀ x∈l,checkT x d=0
 |[],d=>by simp [checkTs]
 |t::r,d=>by
  rw [checkTs]
  have:=checkTs_iff r d
  by_cases h:checkT t d=0<;>simp [h,this]
theorem check_mem {t:VT} {d:Int} (h:checkT t d=0) {x:VT} (hx:x∈t.list):checkT x (d+1)=0:=(checkTs_iff _ _).1 ((checkT_iff t d).1 h).2 x hx
theorem check_zero {d:Int} (hd:d≤32):checkT zeroT d=0:=by
 rw [checkT_iff]
 exact ⟨alone_mono (d:=1) (by decide) hd,by show checkTs [] _=0;rw [checkTs]⟩
theorem extra_of_alone {t:VT} {d:Int} (h:aloneT t d=0):extraT t.kind t.num t.text t.elem t.list.length=false:=by
 unfold aloneT at h
 split at h
 ·cases h
 ·split at h
  ·cases h
  ·split at h
   ·cases h
   ·rename_i hx;simpa using hx
theorem zero_of_check {v:VT} {d:Int} (h:checkT v d=0) (hk:v.kind=0):v=zeroT:=by
 have hx:=extra_of_alone ((checkT_iff v d).1 h).1
 rw [hk] at hx
 obtain ⟨k,m,s,e,l⟩:=v
 obtain rfl:k=0:=hk
 have x1:hasT 0=false:=by decide
 have x2:hasP 0=false:=by decide
 have x3:hasN 0=false:=by decide
 unfold extraT at hx
 rw [x1,x2,x3] at hx
 simp only [VT.num,VT.text,VT.elem,VT.list,Bool.not_false,Bool.true_and,Bool.or_eq_false_iff,ne_eq,Bool.and_eq_false_imp,decide_eq_true_eq] at hx
 obtain ⟨h3,h4,h5,h6⟩:=hx
 have h3:=Decidable.not_not.1 (of_decide_eq_false h3)
 have h4:=Decidable.not_not.1 (of_decide_eq_false h4)
 have h5:=of_decide_eq_false h5
 have hs:s=empt:=by
  have hz:s.data.size=0:=h4
  have hz:s.data= #[]:=Array.eq_empty_of_size_eq_zero hz
  cases s
  exact congrArg ByteArray.mk hz
 have hl:l=[]:=List.eq_nil_of_length_eq_zero (by omega)
 have he:e=0:=Decidable.not_not.1 (of_decide_eq_false (h6 (by omega)))
 rw [h3,hs,hl,he];rfl
theorem check_symArr {x:VT} (hx:x.kind=20) {d:Int} (hd:d≤32) (h:checkT x (d+1)=0):checkT (symArr x) d=0:=by
 rw [checkT_iff]
 refine ⟨alone_mono (d:=1) ?_ hd,?_⟩
 ·unfold aloneT symArr
  simp only [VT.kind,VT.num,VT.text,VT.elem,VT.list]
  have:arrT 20 [x]=true:=by unfold arrT;simp [hx]
  rw [this]
  rfl
 ·show checkTs [x] _=0
  rw [checkTs_iff]
  intro y hy
  rw [List.mem_singleton.1 hy];exact h
theorem check_dflt {k:Int} {fs:List FT} (h:fieldsT k=some fs) {f:FT} (hf:f∈fs) {d:Int} (hd:d≤32):checkT f.dflt d=0:=by
 obtain ⟨e,he,_,rfl⟩:=fieldsT_mem h
 have ht:∀ e∈tab,∀ f∈e.2,aloneT f.dflt 1=0:=by decide
 rw [checkT_iff]
 exact ⟨alone_mono (ht e he f hf) hd,by show checkTs [] _=0;rw [checkTs]⟩
theorem check_packV {k:Int} {l:List VT} {d:Int} (hd:d+1≤32) (h:∀ x∈l,checkT x (d+2)=0):checkT (packV k l) d=0:=by
 rw [checkT_iff]
 refine ⟨alone_mono (d:=1) rfl (by omega),?_⟩
 show checkTs [_,_] _=0
 rw [checkTs_iff]
 intro y hy
 simp only [List.mem_cons,List.not_mem_nil,or_false] at hy
 rcases hy with rfl|rfl
 ·rw [checkT_iff]
  exact ⟨alone_mono (d:=1) rfl (by omega),by show checkTs [] _=0;rw [checkTs]⟩
 ·rw [checkT_iff]
  refine ⟨alone_mono (d:=1) ?_ (by omega),(checkTs_iff _ _).2 fun x hx=>?_⟩
  ·unfold aloneT
   simp only [VT.kind,VT.num,VT.text,VT.elem,VT.list]
   unfold extraT
   simp only [show hasT 21=false by decide,show hasP 21=true by decide,show hasN 21=false by decide]
   rfl
  ·have:=h x hx
   rwa [show d+1+1=d+2 by omega]
def Chk (rd:Rd):Prop:=∀ f x y d,wantedT f x=true→rd f x= .ok y→checkT x d=0→checkT y (d-1)=0
theorem item_chk {rd:Rd} (hc:Chk rd) {k:Int} {fs:List FT} (hf:fieldsT k=some fs) {f:FT} (hm:f∈fs) {x y:VT} {d:Int} (hd:d≤33) (h:itemG rd f x= .ok y) (hx:checkT x d=0):checkT y (d-1)=0:=by
 unfold itemG at h
 split at h
 ·split at h
  ·cases h
  ·cases h
   exact check_dflt hf hm (by omega)
 ·split at h
  ·rename_i ht
   cases h
   exact check_symArr ht.2 (by omega) (by rw [show d-1+1=d by omega];exact hx)
  ·split at h
   ·rename_i hw
    exact hc f x y d hw h hx
   ·cases h
theorem unpack_chk {rd:Rd} (hc:Chk rd) {v:VT} {d:Int} (hv:checkT v d=0) {k:Int} {fs:List FT} {l:List VT} (h:RecOf rd v k fs l):d+1≤32∧∀ y∈l,checkT y (d+1)=0:=by
 obtain ⟨hk,hf,dd,x,h3,h4,h5,h6⟩:=h
 obtain ⟨hl,hi⟩:=itemsG_ok h6
 have hx:=check_mem hv (x:=x) (by rw [h3];simp)
 have hdx:=alone_deep ((checkT_iff _ _).1 hx).1
 refine ⟨hdx,fun y hy=>?_⟩
 obtain ⟨j,hj⟩:=List.getElem?_of_mem hy
 obtain ⟨f,hfj⟩:∃ f,fs[j]? =some f:=⟨_,List.getElem?_eq_getElem (by rw [←hl];exact (List.getElem?_eq_some_iff.1 hj).1)⟩
 have h7:=hi j f y hfj hj
 have hm:=List.mem_of_getElem? hfj
 cases hg:x.list[j]? with
 |none=>
  rw [hg] at h7
  have:=item_chk hc hf hm (d:=1) (by omega) h7 (check_zero (by omega))
  unfold itemG at h7
  rw [if_pos (show ((none:Option VT).getD zeroT).kind=0 from rfl)] at h7
  split at h7
  ·cases h7
  ·cases h7
   exact check_dflt hf hm hdx
 |some u=>
  rw [hg] at h7
  have hu:=check_mem hx (List.mem_of_getElem? hg)
  have:=item_chk hc hf hm (d:=d+1+1) (by omega) h7 hu
  rwa [show d+1+1-1=d+1 by omega] at this
theorem packed_items {rd:Rd} (hp:Plain rd) (hs:Stay rd) {v:VT} {k:Int} {fs:List FT} {l:List VT} (h:RecOf rd v k fs l) {x:VT} (hx:x∈List.zipWith (itemP rd) fs l):x=zeroT∨x∈l:=by
 obtain ⟨hk,hf,dd,b,h3,h4,h5,h6⟩:=h
 obtain ⟨hl,hi⟩:=itemsG_ok h6
 obtain ⟨j,hj⟩:=List.getElem?_of_mem hx
 have hlt:=(List.getElem?_eq_some_iff.1 hj).1
 rw [List.length_zipWith] at hlt
 obtain ⟨f,hfj⟩:∃ f,fs[j]? =some f:=⟨_,List.getElem?_eq_getElem (by omega)⟩
 obtain ⟨y,hy⟩:∃ y,l[j]? =some y:=⟨_,List.getElem?_eq_getElem (by omega)⟩
 rw [zip_get hfj hy] at hj
 cases hj
 rcases (item_again hp hs (field_good hf (List.mem_of_getElem? hfj)) (hi j f y hfj hy)).2 with e|e
 ·exact .inl e
 ·rw [e];exact .inr (List.mem_of_getElem? hy)
theorem pack_chk {rd:Rd} (hp:Plain rd) (hs:Stay rd) (hc:Chk rd) {v:VT} {d:Int} (hv:checkT v d=0) {k:Int} {l:List VT} (h:unpackG rd v= .ok (k,l)):checkT (packG rd k l) (d-1)=0:=by
 obtain ⟨fs,hr⟩:=unpackG_ok h
 obtain ⟨hd,hl⟩:=unpack_chk hc hv hr
 unfold packG
 rw [hr.fields]
 refine check_packV (by omega) fun x hx=>?_
 rw [show d-1+2=d+1 by omega]
 rcases packed_items hp hs hr (trim_mem hx) with rfl|h
 ·exact check_zero hd
 ·exact hl x h
theorem chkF:∀ n,Chk (readF n)
 |0=>fun f x y d hw h hx=>by
  by_cases ht:f.type=102
  ·have h:readG _ _ f x=_:=h
   unfold readG at h
   rw [if_pos ht] at h
   cases h
  ·rw [readF_plain 0 f x ht] at h
   cases h
   exact check_mono x (by omega) hx
 |n+1=>fun f x y d hw h hx=>by
  by_cases ht:f.type=102
  ·have h:readG _ _ f x=_:=h
   unfold readG at h
   rw [if_pos ht] at h
   split at h
   ·cases h
   ·rename_i a ha
    cases h
    exact pack_chk (readF_plain n) (stayF n) (chkF n) hx ha
  ·rw [readF_plain (n+1) f x ht] at h
   cases h
   exact check_mono x (by omega) hx
theorem item_eq {n:Nat} (hQ:∀ f x,checkT x 1=0→readR n f x=readF n f x) {f:FT} (hg:fieldGood f=true) {v:VT} (hv:checkT v 1=0) (hr:v.kind≠0→∃ y,readF n f v= .ok y):itemR (readR n) f v=itemP (readF n) f v:=by
 by_cases hk:v.kind=0
 ·obtain rfl:=zero_of_check hv hk
  have e:takeR (readR n) f zeroT=zeroT:=if_neg (fun h=>h.2 rfl)
  unfold itemR itemP
  rw [if_pos (.inl rfl:zeroT.kind=0∨_),e]
  split<;>rfl
 ·obtain ⟨y,hy⟩:=hr hk
  have hy':=(hQ f v hv).trans hy
  by_cases ht:f.type=102
  ·obtain ⟨hd,_⟩:=good_comp hg ht
   have hyk:y.kind=24:=by
    cases n with
    |zero=>
     have hy:readG _ _ f v=_:=hy
     unfold readG at hy
     rw [if_pos ht] at hy
     cases hy
    |succ n=>
     have hy:readG _ _ f v=_:=hy
     unfold readG at hy
     rw [if_pos ht] at hy
     split at hy
     ·cases hy
     ·cases hy;rfl
   have e:takeR (readR n) f v=y:=by unfold takeR;rw [if_pos ⟨ht,hk⟩,hy']
   unfold itemR itemP
   rw [e,hd,hy,if_neg,if_neg]
   ·rfl
   ·rintro (h|h)
    ·exact hk h
    ·exact hk (eqT_kind h)
   ·intro h;have:=eqT_kind h;rw [hyk] at this;cases this
  ·have e:takeR (readR n) f v=v:=if_neg (fun h=>ht h.1)
   unfold itemR itemP
   rw [e,readF_plain n f v ht]
   simp only [hk,false_or,okV]
theorem zipWith_congr {α β γ:Type} {g g':α→β→γ}:∀ {a:List α} {b:List β},(∀ (i:Nat) x y,a[i]? =some x→b[i]? =some y→g x y=g' x y)→List.zipWith g a b=List.zipWith g' a b
 |[],b,_=>by simp
 |x::a,[],_=>by simp
 |x::a,y::b,h=>by
  rw [List.zipWith_cons_cons,List.zipWith_cons_cons,h 0 x y rfl rfl,zipWith_congr fun i x y hx hy=>h (i+1) x y hx hy]
theorem pack_eq {n:Nat} (hQ:∀ f x,checkT x 1=0→readR n f x=readF n f x) {k:Int} {fs:List FT} {l:List VT} (hf:fieldsT k=some fs) (hl:∀ (j:Nat) (f:FT) (v:VT),fs[j]? =some f→l[j]? =some v→checkT v 1=0∧(v.kind≠0→∃ y,readF n f v= .ok y)):packR n k l=packF n k l:=by
 show packR' (readR n) k l=packG (readF n) k l
 unfold packR' packG
 rw [hf,Option.getD_some,zipWith_congr (g:=itemR (readR n)) (g':=itemP (readF n)) fun i f v hf' hv=>item_eq hQ (field_good hf (List.mem_of_getElem? hf')) (hl i f v hf' hv).1 (hl i f v hf' hv).2]
theorem unpack_eq {n:Nat} (hQ:∀ f x,checkT x 1=0→readR n f x=readF n f x) {v:VT} (hv:checkT v 1=0):unpackR n v=unpackF n v:=by
 show unpackR' (readR n) v=unpackG (readF n) v
 unfold unpackR'
 rw [if_neg (by simp [hv])]
 unfold unpackG
 cases hk:kindOf v with
 |none=>rfl
 |some k=>
  cases hf:fieldsT k with
  |none=>simp only [hf]
  |some fs=>
   simp only [hf]
   match hl:v.list with
   |[d,x]=>
    have hx:=check_mem hv (x:=x) (by rw [hl];simp)
    have e:itemsG (readR n) fs x.list 0=itemsG (readF n) fs x.list 0:=itemsG_congr fun j f hj=>by
     have hc:checkT ((x.list[j]?).getD zeroT) 1=0:=by
      cases hg:x.list[j]? with
      |none=>exact check_zero (by omega)
      |some u=>exact check_mono u (d:=1+1+1) (by omega) (check_mem hx (List.mem_of_getElem? hg))
     unfold itemG
     rw [hQ f _ hc]
    simp only [e]
   |[]=>rfl
   |[_]=>rfl
   |_::_::_::_=>rfl
theorem rec_read {n:Nat} {v:VT} (hv:checkT v 1=0) {k:Int} {fs:List FT} {l:List VT} (h:RecOf (readF n) v k fs l):∀ (j:Nat) (f:FT) (y:VT),fs[j]? =some f→l[j]? =some y→checkT y 1=0∧(y.kind≠0→∃ z,readF n f y= .ok z):=by
 obtain ⟨hd,hc⟩:=unpack_chk (chkF n) hv h
 obtain ⟨hk,hf,dd,x,h3,h4,h5,h6⟩:=h
 obtain ⟨hl,hi⟩:=itemsG_ok h6
 intro j f y hj hy
 refine ⟨check_mono y (by omega) (hc y (List.mem_of_getElem? hy)),fun hk0=>?_⟩
 have h7:=hi j f y hj hy
 have hg:=field_good hf (List.mem_of_getElem? hj)
 unfold itemG at h7
 split at h7
 ·split at h7
  ·cases h7
  ·cases h7
   by_cases ht:f.type=102
   ·exact absurd (by rw [(good_comp hg ht).1];rfl) hk0
   ·exact ⟨_,readF_plain n f _ ht⟩
 ·split at h7
  ·rename_i ht
   exact ⟨_,readF_plain n f _ (by omega)⟩
  ·split at h7
   ·rename_i hx hw
    exact ⟨_,(stayF n f _ y (by assumption) hw h7).1⟩
   ·cases h7
theorem readQ:∀ n,∀ f x,checkT x 1=0→readR n f x=readF n f x
 |0=>fun f x _=>rfl
 |n+1=>fun f x hx=>by
  show readG _ _ f x=readG _ _ f x
  unfold readG
  by_cases ht:f.type=102
  ·rw [if_pos ht,if_pos ht]
   have e:=unpack_eq (readQ n) hx
   have e:unpackR' (readR n) x=unpackG (readF n) x:=e
   rw [e]
   cases hu:unpackG (readF n) x with
   |error e=>rfl
   |ok a=>
    obtain ⟨k,l⟩:=a
    obtain ⟨fs,hr⟩:=unpackG_ok hu
    have:=pack_eq (readQ n) hr.fields (rec_read hx hr)
    have this:packR' (readR n) k l=packG (readF n) k l:=this
    simp only [this]
  ·rw [if_neg ht,if_neg ht]
def fieldC (rd:Rd) (f:FT) (v:VT):Int:=
 if v.kind=0∧f.must=true then 72 else if checkT v 1≠0∨v.kind=0 then checkT v 1 else if wantedT f v=false then 73 else match rd f v with
  | .error e=>e
  | .ok _=>0
def fieldsC (rd:Rd):List FT→List VT→Int
 |f::fs,v::l=>if fieldC rd f v≠0 then fieldC rd f v else fieldsC rd fs l
 |_,_=>0
def recC (rd:Rd) (pk:Int→List VT→VT) (k:Int) (l:List VT):Int:=
 match fieldsT k with
 |none=>70
 |some fs=>if l.length≠fs.length then 71 else if fieldsC rd fs l≠0 then fieldsC rd fs l else if 32<depthT (pk k l) then 26 else 0
theorem fieldC_eq (n:Nat) (f:FT) (v:VT):fieldC (readR n) f v=fieldC (readF n) f v:=by
 unfold fieldC
 by_cases h:checkT v 1=0
 ·rw [readQ n f v h]
 ·rw [if_pos (show checkT v 1≠0∨v.kind=0 from .inl h),if_pos (show checkT v 1≠0∨v.kind=0 from .inl h)]
theorem fieldsC_eq (n:Nat):∀ (fs:List FT) (l:List VT),fieldsC (readR n) fs l=fieldsC (readF n) fs l
 |[],[]=>rfl
 |[],_::_=>rfl
 |_::_,[]=>rfl
 |f::fs,v::l=>by
  unfold fieldsC
  rw [fieldC_eq,fieldsC_eq n fs l]
theorem fieldsC_get {rd:Rd}:∀ {fs:List FT} {l:List VT},fieldsC rd fs l=0→∀ (j:Nat) (f:FT) (v:VT),fs[j]? =some f→l[j]? =some v→fieldC rd f v=0
 |[],_,_,j,f,v,hf,_=>by simp at hf
 |_::_,[],_,j,f,v,_,hv=>by simp at hv
 |f0::fs,v0::l,h,j,f,v,hf,hv=>by
  unfold fieldsC at h
  split at h
  ·rename_i h1;exact absurd h h1
  ·rename_i h1
   cases j with
   |zero=>simp at hf hv;subst hf;subst hv;simpa using h1
   |succ j=>simp at hf hv;exact fieldsC_get h j f v hf hv
theorem fieldC_ok {rd:Rd} {f:FT} {v:VT} (h:fieldC rd f v=0) (he:∀ e,rd f v= .error e→e≠0):checkT v 1=0∧(v.kind≠0→wantedT f v=true∧∃ y,rd f v= .ok y):=by
 unfold fieldC at h
 split at h
 ·cases h
 ·split at h
  ·rename_i h1
   exact ⟨h,fun hk=>absurd h (h1.resolve_right hk)⟩
  ·rename_i h1
   simp only [not_or,ne_eq,Decidable.not_not] at h1
   split at h
   ·cases h
   ·rename_i hw
    refine ⟨h1.1,fun _=>⟨by simpa using hw,?_⟩⟩
    split at h
    ·rename_i e hh
     exact absurd h (he e hh)
    ·rename_i y hh
     exact ⟨y,hh⟩
theorem itemsG_err {rd:Rd} (hr:∀ f x e,rd f x= .error e→e≠0):∀ {fs:List FT} {g:List VT} {i:Nat} {e:Nat×Int},itemsG rd fs g i= .error e→e.2≠0
 |[],g,i,e,h=>by cases h
 |f::fs,g,i,e,h=>by
  unfold itemsG at h
  split at h
  ·rename_i e' he
   cases h
   unfold itemG at he
   split at he
   ·split at he
    ·cases he;exact (by decide:(72:Int)≠0)
    ·cases he
   ·split at he
    ·cases he
    ·split at he
     ·exact hr _ _ _ he
     ·cases he;exact (by decide:(73:Int)≠0)
  ·split at h
   ·rename_i e' he;cases h;exact itemsG_err hr he
   ·cases h
theorem unpackG_err {rd:Rd} (hr:∀ f x e,rd f x= .error e→e≠0) {v:VT} {e:Nat×Int} (h:unpackG rd v= .error e):e.2≠0:=by
 unfold unpackG at h
 split at h
 ·cases h;decide
 ·split at h
  ·cases h;decide
  ·split at h
   ·split at h
    ·cases h;decide
    ·split at h
     ·cases h;exact (by decide:(71:Int)≠0)
     ·split at h
      ·rename_i e' he;cases h;exact itemsG_err hr he
      ·cases h
   ·cases h;decide
theorem readF_err:∀ n f x e,readF n f x= .error e→e≠0
 |0,f,x,e,h=>by
  have h:readG _ _ f x=_:=h
  unfold readG at h
  split at h
  ·cases h;decide
  ·cases h
 |n+1,f,x,e,h=>by
  have h:readG _ _ f x=_:=h
  unfold readG at h
  split at h
  ·split at h
   ·rename_i e' he;cases h;exact unpackG_err (readF_err n) he
   ·cases h
  ·cases h
theorem fields_ready {n:Nat} {fs:List FT} {l:List VT} (h:fieldsC (readF n) fs l=0):∀ (j:Nat) (f:FT) (v:VT),fs[j]? =some f→l[j]? =some v→checkT v 1=0∧(v.kind≠0→wantedT f v=true∧∃ y,readF n f v= .ok y):=fun j f v hf hv=>
 fieldC_ok (fieldsC_get h j f v hf hv) (readF_err n f v)
theorem recC_eq (n:Nat) (k:Int) (l:List VT):recC (readR n) (packR n) k l=recC (readF n) (packF n) k l:=by
 unfold recC
 cases hf:fieldsT k with
 |none=>rfl
 |some fs=>
  simp only
  rw [fieldsC_eq]
  by_cases hl:l.length≠fs.length
  ·rw [if_pos hl,if_pos hl]
  ·rw [if_neg hl,if_neg hl]
   by_cases hc:fieldsC (readF n) fs l=0
   ·rw [if_neg (show ¬fieldsC (readF n) fs l≠0 from fun h=>h hc),if_neg (show ¬fieldsC (readF n) fs l≠0 from fun h=>h hc),pack_eq (readQ n) hf fun j f v hj hv=>⟨(fields_ready hc j f v hj hv).1,fun hk=>((fields_ready hc j f v hj hv).2 hk).2⟩]
   ·rw [if_pos hc,if_pos hc]
structure Kc (br:Nat) (w w':World):Prop where
 os:w'.os=w.os
 tape:w'.tape=w.tape
 output:w'.output=w.output
 size:w.heap.size≤w'.heap.size
 cells:∀ k cs T fr,k≠br→w.heap[k]? =some (.cells cs T fr)→w'.heap[k]? =some (.cells cs T fr)
 low:∀ k,k<br-1→k<w.heap.size→w'.heap[k]? =w.heap[k]?
theorem Kc.refl (br:Nat) (w:World):Kc br w w:=⟨rfl,rfl,rfl,Nat.le_refl _,fun _ _ _ _ _ h=>h,fun _ _ _=>rfl⟩
theorem Kc.trans {br:Nat} {a b c:World} (h:Kc br a b) (k:Kc br b c):Kc br a c:=
 ⟨k.os.trans h.os,k.tape.trans h.tape,k.output.trans h.output,Nat.le_trans h.size k.size,fun i cs T fr hi hh=>k.cells i cs T fr hi (h.cells i cs T fr hi hh),fun i h1 h2=>(k.low i h1 (Nat.lt_of_lt_of_le h2 h.size)).trans (h.low i h1 h2)⟩
theorem Kc.of_below {br:Nat} {w w':World} (h:Below w.heap.size w w'):Kc br w w':=
 ⟨h.os,h.tape,h.output,h.size,fun k _ _ _ _ hh=>(h.block k (Array.getElem?_eq_some_iff.1 hh).1).trans hh,fun k _ h2=>h.block k h2⟩
theorem Kc.below {w w':World} (h:Kc (w.heap.size+1) w w'):Below w.heap.size w w':=⟨h.os,h.tape,h.output,h.size,fun k hk=>h.low k (by omega) hk⟩
theorem cells_of_cell {w:World} {p:Addr} {v:Value} (h:w.cell? p=some v):∃ cs T fr,w.heap[p.block]? =some (.cells cs T fr):=by
 unfold World.cell? at h
 cases hh:w.heap[p.block]? with
 |none=>rw [hh] at h;cases h
 |some o=>
  rw [hh] at h
  cases o<;>first|exact ⟨_,_,_,rfl⟩|cases h
theorem Kc.cell {br:Nat} {w w':World} (hk:Kc br w w') {p:Addr} {v:Value} (h:w.cell? p=some v) (hp:p.block≠br):w'.cell? p=some v:=by
 obtain ⟨cs,T,fr,hh⟩:=cells_of_cell h
 have h2:=hk.cells _ _ _ _ hp hh
 rw [World.cell?_of_block (w:=w) (h2.trans hh.symm)]
 exact h
theorem LAt.kc {B br:Nat} {w w':World} (hk:Kc br w w') (hB:B≤br):∀ {n:Nat} {v:Value} {ts:List VT},LAt B w n v ts→LAt B w' n v ts
 |0,_,_,h=>h
 |n+1,v,ts,h=>by
  rcases h with h|⟨b,off,c,h1,h2,h3,h4⟩
  ·exact .inl h
  ·have hb:b≠br:=by omega
   exact .inr ⟨b,off,c,h1,h2,h3,fun i t ht=>let ⟨hf,lv,ha,hl⟩:=h4 i t ht;⟨hf,lv,⟨hk.cell ha.kind hb,hk.cell ha.num hb,hk.cell ha.text hb,hk.cell ha.list hb,hk.cell ha.elem hb⟩,LAt.kc hk hB hl⟩⟩
mutual
def nodes:VT→Nat
 | .mk _ _ _ _ l=>nodesL l+1
def nodesL:List VT→Nat
 |[]=>0
 |t::r=>nodes t+nodesL r
end
theorem nodes_eq (t:VT):nodes t=nodesL t.list+1:=by cases t;rw [nodes];rfl
theorem nodesL_step {l:List VT} {k:Nat} {t:VT} (h:l[k]? =some t):nodesL (l.drop k)=nodes t+nodesL (l.drop (k+1)):=by
 have h1:l.drop k=t::l.drop (k+1):=by
  rw [List.drop_eq_getElem_cons (List.getElem?_eq_some_iff.1 h).1];congr 1;exact (List.getElem?_eq_some_iff.1 h).2
 rw [h1,nodesL]
mutual
theorem depthT_le:∀ t:VT,depthT t≤nodes t
 | .mk _ _ _ _ l=>by rw [depthT,nodes];have:=depthTs_le l;omega
theorem depthTs_le:∀ l:List VT,depthTs l≤nodesL l
 |[]=>by rw [depthTs,nodesL];exact Nat.le_refl _
 |t::r=>by rw [depthTs,nodesL];have:=depthT_le t;have:=depthTs_le r;omega
end
theorem nodesL_at {l:List VT} {k:Nat} {t:VT} (h:l[k]? =some t):nodes t+nodesL (l.drop (k+1))≤nodesL l:=by
 induction l generalizing k with
 |nil=>simp at h
 |cons a r ih=>
  cases k with
  |zero=>simp at h;subst h;rw [nodesL];simp
  |succ k=>
   have:=ih (k:=k) (by simpa using h)
   rw [nodesL,List.drop_succ_cons]
   omega
structure It (B:Nat) (w0:World) (N:Nat) where
 d:Int
 t:VT
 lv:Value
 fine:t.Fine
 lat:LAt B w0 N lv t.list
def It.ok {B:Nat} {w0:World} {N:Nat} (y:It B w0 N):Prop:=aloneT y.t y.d=0
section
variable {B:Nat} {w0:World} {N:Nat}
def FullC (t:VT) (d:Int) (ys:List (It B w0 N)):Prop:=(∀ y∈ys,y.ok)→checkT t d=0
def PrefC (t:VT) (d:Int) (q:List (It B w0 N)):Prop:=q≠[]∧∀ q' y,q=q'++[y]→(∀ z∈q',z.ok)→¬y.ok→checkT t d=aloneT y.t y.d
def AccC (t:VT) (d:Int) (j:Nat) (ys:List (It B w0 N)):Prop:=(∀ y∈ys,y.ok)→aloneT t d=0∧checkTs (t.list.drop j) (d+1)=checkTs t.list (d+1)
theorem prefC_self {t:VT} {d:Int} {y:It B w0 N} (ht:y.t=t) (hd:y.d=d):PrefC t d [y]:=by
 refine ⟨by simp,fun q' z h _ hz=>?_⟩
 have:q'=[]∧y=z:=by
  cases q' with
  |nil=>simpa using h
  |cons a q'=>simp at h
 obtain ⟨_,rfl⟩:=this
 unfold It.ok at hz
 rw [ht,hd] at hz ⊢
 rw [checkT_eq,if_pos hz]
theorem accC_start {t:VT} {d:Int} {y:It B w0 N} (ht:y.t=t) (hd:y.d=d):AccC t d 0 [y]:=fun h=>by
 have:=h y (by simp)
 unfold It.ok at this
 rw [ht,hd] at this
 exact ⟨this,rfl⟩
theorem accC_step {t u:VT} {d:Int} {j:Nat} {ys ys':List (It B w0 N)} (h:AccC t d j ys) (hu:t.list[j]? =some u) (hf:FullC u (d+1) ys'):AccC t d (j+1) (ys++ys'):=fun hok=>by
 obtain ⟨h1,h2⟩:=h fun y hy=>hok y (List.mem_append_left _ hy)
 have h3:=hf fun y hy=>hok y (List.mem_append_right _ hy)
 refine ⟨h1,?_⟩
 rw [checkTs_step hu,h3] at h2
 simpa using h2
theorem prefC_part {t u:VT} {d:Int} {j:Nat} {ys q:List (It B w0 N)} (h:AccC t d j ys) (hu:t.list[j]? =some u) (hq:PrefC u (d+1) q):PrefC t d (ys++q):=by
 refine ⟨fun e=>hq.1 (List.append_eq_nil_iff.1 e).2,fun q' y he hz hy=>?_⟩
 obtain ⟨q1,y1,rfl⟩:∃ q1 y1,q=q1++[y1]:=⟨q.dropLast,q.getLast hq.1,(List.dropLast_concat_getLast hq.1).symm⟩
 rw [←List.append_assoc] at he
 obtain ⟨rfl,h1⟩:=List.append_inj' he rfl
 obtain rfl:y1=y:=by simpa using h1
 have hc:=hq.2 q1 y1 rfl (fun z hz'=>hz z (List.mem_append_right _ hz')) hy
 obtain ⟨h2,h3⟩:=h fun z hz'=>hz z (List.mem_append_left _ hz')
 have hne:checkT u (d+1)≠0:=by rw [hc];exact hy
 rw [checkTs_step hu,if_pos hne] at h3
 rw [checkT_eq,if_neg (by rw [h2];simp),←h3,hc]
theorem fullC_end {t:VT} {d:Int} {ys:List (It B w0 N)} (h:AccC t d t.list.length ys):FullC t d ys:=fun hok=>by
 obtain ⟨h1,h2⟩:=h hok
 rw [checkTs_end] at h2
 rw [checkT_eq,if_neg (by rw [h1];simp),←h2]
def maxD (n0:Int) (ys:List (It B w0 N)):Int:=ys.foldl (fun n y=>max n y.d) n0
theorem maxD_append (n0:Int) (ys zs:List (It B w0 N)):maxD n0 (ys++zs)=maxD (maxD n0 ys) zs:=by simp [maxD,List.foldl_append]
def FullD (t:VT) (d:Int) (ys:List (It B w0 N)):Prop:=∀ n0,maxD n0 ys=max n0 (d+(depthT t:Int)-1)
def AccD (t:VT) (d:Int) (j:Nat) (ys:List (It B w0 N)):Prop:=∀ n0,maxD n0 ys=max n0 (d+(depthTs (t.list.take j):Int))
theorem depthTs_snoc:∀ (l:List VT) (u:VT),depthTs (l++[u])=max (depthTs l) (depthT u)
 |[],u=>by simp [depthTs]
 |a::l,u=>by rw [List.cons_append,depthTs,depthTs_snoc l u,depthTs];omega
theorem accD_start {t:VT} {d:Int} {y:It B w0 N} (hd:y.d=d):AccD t d 0 [y]:=fun n0=>by simp [maxD,depthTs,hd]
theorem accD_step {t u:VT} {d:Int} {j:Nat} {ys ys':List (It B w0 N)} (h:AccD t d j ys) (hu:t.list[j]? =some u) (hf:FullD u (d+1) ys'):AccD t d (j+1) (ys++ys'):=fun n0=>by
 rw [maxD_append,h n0,hf,List.take_add_one,hu,show (some u).toList=[u] from rfl,depthTs_snoc]
 omega
theorem fullD_end {t:VT} {d:Int} {ys:List (It B w0 N)} (h:AccD t d t.list.length ys):FullD t d ys:=fun n0=>by
 rw [h n0,List.take_length,depthT_eq]
 congr 1
 omega
end
def rk (k:Int):Nat:=if k=37∨k=22∨k=23∨k=24 then 1 else if k=40∨k=52 then 2 else if k=18∨k=20∨k=21 then 3 else 0
def rkO (o:Option Int):Nat:=match o with|some k=>rk k|none=>0
theorem rk_le (k:Int):rk k≤3:=by unfold rk;(repeat' split)<;>omega
theorem rkO_le (o:Option Int):rkO o≤3:=by cases o<;>first|exact Nat.zero_le _|exact rk_le _
theorem tab_rk:∀ e∈tab,∀ f∈e.2,∀ j∈f.kinds,rk j<rk e.1:=by decide
theorem rk_field {k:Int} {fs:List FT} (h:fieldsT k=some fs) {f:FT} (hf:f∈fs) {j:Int} (hj:j∈f.kinds):rk j<rk k:=by
 obtain ⟨e,he,hk,rfl⟩:=fieldsT_mem h
 have:=tab_rk e he f hf j hj
 rwa [hk] at this
theorem wanted_rk {k:Int} {fs:List FT} (h:fieldsT k=some fs) {f:FT} (hf:f∈fs) (ht:f.type=102) {v:VT} (hw:wantedT f v=true):rkO (kindOf v)<rk k:=by
 unfold wantedT at hw
 rw [if_neg (by omega),if_neg (by omega),if_pos ht] at hw
 cases hk:kindOf v with
 |none=>rw [hk] at hw;cases hw
 |some j=>
  rw [hk] at hw
  exact rk_field h hf (by simpa using hw)
theorem tab_len:∀ e∈tab,e.2.length≤13∧∀ f∈e.2,f.kinds.length≤13:=by decide
theorem fieldsT_len {k:Int} {fs:List FT} (h:fieldsT k=some fs):fs.length≤13:=by
 obtain ⟨e,he,_,rfl⟩:=fieldsT_mem h
 exact (tab_len e he).1
theorem nodes_pos (t:VT):1≤nodes t:=by rw [nodes_eq];omega
theorem nodesL_mem {l:List VT} {x:VT} (h:x∈l):nodes x≤nodesL l:=by
 induction l with
 |nil=>cases h
 |cons a r ih=>
  rw [nodesL]
  rcases List.mem_cons.1 h with rfl|h
  ·omega
  ·have:=ih h;omega
theorem nodesL_trim:∀ l:List VT,nodesL (trimT l)≤nodesL l
 |[]=>Nat.le_refl _
 |a::r=>by
  have:=nodesL_trim r
  unfold trimT
  split
  ·split
   ·rw [nodesL];omega
   ·rw [nodesL,nodesL,nodesL];omega
  ·rename_i b s h
   rw [h] at this
   simp only [nodesL] at this ⊢
   omega
theorem nodes_packV (k:Int) (l:List VT):nodes (packV k l)=nodesL l+3:=by
 unfold packV
 simp only [nodes,nodesL];omega
def Mild (rd:Rd):Prop:=∀ f x y,rd f x= .ok y→nodes y≤30*nodes x
theorem item_nodes {rd:Rd} (hm:Mild rd) {f:FT} {x y:VT} (h:itemG rd f x= .ok y):nodes y≤30*nodes x:=by
 have:=nodes_pos x
 unfold itemG at h
 split at h
 ·split at h
  ·cases h
  ·cases h
   have:nodes f.dflt=1:=by unfold FT.dflt;simp [nodes,nodesL]
   omega
 ·split at h
  ·cases h
   have:nodes (symArr x)=nodes x+1:=by unfold symArr;simp [nodes,nodesL]
   omega
  ·split at h
   ·exact hm f x y h
   ·cases h
theorem items_nodes {rd:Rd} (hm:Mild rd):∀ {fs:List FT} {g:List VT} {i:Nat} {l:List VT},itemsG rd fs g i= .ok l→nodesL l≤30*nodesL g+fs.length
 |[],g,i,l,h=>by cases h;simp [nodesL]
 |f::fs,g,i,l,h=>by
  unfold itemsG at h
  split at h
  ·cases h
  ·rename_i y hy
   split at h
   ·cases h
   ·rename_i r hr
    cases h
    have h2:=items_nodes hm hr
    cases g with
    |nil=>
     have hz:nodes y=1:=by
      unfold itemG at hy
      rw [if_pos (show ((([]:List VT).headD zeroT).kind=0) from rfl)] at hy
      split at hy
      ·cases hy
      ·cases hy;unfold FT.dflt;simp [nodes,nodesL]
     simp only [List.tail_nil,nodesL,List.length_cons] at h2 ⊢
     omega
    |cons a b=>
     have h1:=item_nodes hm hy
     simp only [List.headD_cons,List.tail_cons,nodesL,List.length_cons] at h1 h2 ⊢
     omega
theorem unpack_nodes {rd:Rd} (hm:Mild rd) {v:VT} {k:Int} {l:List VT} (h:unpackG rd v= .ok (k,l)):nodesL l≤30*nodes v:=by
 obtain ⟨fs,hk,hf,d,x,h3,h4,h5,h6⟩:=unpackG_ok h
 have h1:=items_nodes hm h6
 have h2:=fieldsT_len hf
 have h7:=nodes_eq v
 rw [h3] at h7
 have h8:nodesL [d,x]=nodes d+nodes x:=by simp [nodesL]
 have h9:=nodes_eq x
 have:=nodes_pos d
 omega
theorem zip_nodes {g:FT→VT→VT} {c:Nat} (hc:1≤c):∀ {fs:List FT} {l:List VT},(∀ (j:Nat) (f:FT) (y:VT),fs[j]? =some f→l[j]? =some y→nodes (g f y)≤c*nodes y)→nodesL (List.zipWith g fs l)≤c*nodesL l
 |[],l,_=>by simp [nodesL]
 |f::fs,[],_=>by simp [nodesL]
 |f::fs,y::l,h=>by
  have h1:=h 0 f y rfl rfl
  have h2:=zip_nodes (g:=g) hc (fs:=fs) (l:=l) fun j f' y' hf hy=>h (j+1) f' y' hf hy
  rw [List.zipWith_cons_cons,nodesL,nodesL,Nat.mul_add]
  omega
theorem itemP_nodes {rd:Rd} (hm:Mild rd) (f:FT) (v:VT):nodes (itemP rd f v)≤30*nodes v:=by
 have:=nodes_pos v
 have hz:nodes zeroT=1:=by simp [zeroT,nodes,nodesL]
 unfold itemP
 split
 ·omega
 ·cases h:rd f v with
  |error e=>show nodes zeroT≤_;omega
  |ok y=>exact hm f v y h
theorem pack_nodes {rd:Rd} (hm:Mild rd) (k:Int) (l:List VT):nodes (packG rd k l)≤30*nodesL l+3:=by
 unfold packG
 rw [nodes_packV]
 have h1:=nodesL_trim (List.zipWith (itemP rd) ((fieldsT k).getD []) l)
 have h2:=zip_nodes (g:=itemP rd) (c:=30) (by omega) (fs:=(fieldsT k).getD []) (l:=l) fun j f y _ _=>itemP_nodes hm f y
 omega
theorem nodesL_zip_le {g:FT→VT→VT}:∀ {fs:List FT} {l:List VT},(∀ (j:Nat) (f:FT) (y:VT),fs[j]? =some f→l[j]? =some y→g f y=zeroT∨g f y=y)→nodesL (List.zipWith g fs l)≤nodesL l
 |[],l,_=>by simp [nodesL]
 |f::fs,[],_=>by simp [nodesL]
 |f::fs,y::l,h=>by
  have h1:=h 0 f y rfl rfl
  have h2:=nodesL_zip_le (g:=g) (fs:=fs) (l:=l) fun j f' y' hf hy=>h (j+1) f' y' hf hy
  have hz:nodes zeroT=1:=by simp [zeroT,nodes,nodesL]
  have:=nodes_pos y
  rw [List.zipWith_cons_cons,nodesL,nodesL]
  rcases h1 with h1|h1<;>rw [h1]<;>omega
theorem norm_nodes {rd:Rd} (hm:Mild rd) (hp:Plain rd) (hs:Stay rd) {v:VT} {k:Int} {l:List VT} (h:unpackG rd v= .ok (k,l)):nodes (packG rd k l)≤30*nodes v:=by
 obtain ⟨fs,hk,hf,d,x,h3,h4,h5,h6⟩:=unpackG_ok h
 obtain ⟨hl,hi⟩:=itemsG_ok h6
 have h1:nodesL (List.zipWith (itemP rd) fs l)≤nodesL l:=nodesL_zip_le fun j f y hj hy=>(item_again hp hs (field_good hf (List.mem_of_getElem? hj)) (hi j f y hj hy)).2
 have h2:=nodesL_trim (List.zipWith (itemP rd) fs l)
 have h7:=nodes_eq v
 rw [h3] at h7
 have h8:nodesL [d,x]=nodes d+nodes x:=by simp [nodesL]
 have h9:=nodes_eq x
 have h10:=nodes_pos d
 have h11:=items_nodes hm h6
 have h12:=fieldsT_len hf
 unfold packG
 rw [hf,Option.getD_some,nodes_packV]
 omega
theorem mildF:∀ n,Mild (readF n)
 |0=>fun f x y h=>by
  by_cases ht:f.type=102
  ·have h:readG _ _ f x=_:=h
   unfold readG at h
   rw [if_pos ht] at h
   cases h
  ·rw [readF_plain 0 f x ht] at h
   cases h;omega
 |n+1=>fun f x y h=>by
  by_cases ht:f.type=102
  ·have h:readG _ _ f x=_:=h
   unfold readG at h
   rw [if_pos ht] at h
   split at h
   ·cases h
   ·rename_i a ha
    cases h
    exact norm_nodes (mildF n) (readF_plain n) (stayF n) ha
  ·rw [readF_plain (n+1) f x ht] at h
   cases h;omega
def LV:Nat:=10000000000000
theorem OL.tight {w:World}:∀ {n:Nat} {v:Value} {ts:List VT} {vs:List Value},OL w n v ts vs→OL w (depthTs ts+1) v ts vs
 |0,_,_,_,h=>h.elim
 |n+1,v,ts,vs,h=>by
  rcases h with h|⟨g,c,vss,rfl,h2,h3,h4,h5,h6,rfl,h8⟩
  ·exact .inl h
  ·refine .inr ⟨g,c,vss,rfl,h2,h3,h4,h5,h6,rfl,fun i t us ht hu=>?_⟩
   obtain ⟨hf,lv,ha,ho⟩:=h8 i t us ht hu
   have hd:depthT t≤depthTs ts:=by
    have:=List.mem_of_getElem? ht
    clear h2 h3 h4 h5 h6 h8 ha ho ht hu
    induction ts with
    |nil=>cases this
    |cons a r ih=>
     rw [depthTs]
     rcases List.mem_cons.1 this with rfl|h
     ·omega
     ·have:=ih h;omega
   exact ⟨hf,lv,ha,(OL.tight ho).mono (by rw [←depthT_eq];exact hd)⟩
theorem OL.lv {w:World} {n:Nat} {v:Value} {ts:List VT} {vs:List Value} (h:OL w n v ts vs) (hd:depthTs ts<LV):OL w LV v ts vs:=h.tight.mono hd
theorem OL.lvN {w:World} {n:Nat} {v:Value} {ts:List VT} {vs:List Value} (h:OL w n v ts vs) (hd:nodesL ts<LV):OL w LV v ts vs:=h.lv (Nat.lt_of_le_of_lt (depthTs_le ts) hd)
abbrev PItem:=VT×Value×List Value
def itemsX (items:List PItem):List (VT×Value):=items.map fun x=>(x.1,x.2.1)
def itemsU (items:List PItem):List Value:=(items.map fun x=>x.2.2).flatten
def itemsT (items:List PItem):List VT:=items.map fun x=>x.1
theorem itemsX_len (items:List PItem):(itemsX items).length=items.length:=by simp [itemsX]
theorem itemsU_mem {items:List PItem} {u:Value}:u∈itemsU items↔∃ x∈items,u∈x.2.2:=by
 unfold itemsU
 rw [List.mem_flatten]
 constructor
 ·rintro ⟨l,hl,hu⟩
  obtain ⟨x,hx,rfl⟩:=List.mem_map.1 hl
  exact ⟨x,hx,hu⟩
 ·rintro ⟨x,hx,hu⟩
  exact ⟨_,List.mem_map.2 ⟨x,hx,rfl⟩,hu⟩
structure PRel (B:Nat) (T:TypeId) (W:World) (items:List PItem) (v:Value) (w:World):Prop where
 below:Below B W w
 Bw:B≤w.heap.size
 row:w.ownsRow B T 5 v items.length (cellsL (itemsX items))
 own:∀ x∈items,x.1.Fine∧OL w LV x.2.1 x.1.list x.2.2
 blk:Blk B w.heap.size (itemsU items)
 apart:ApartV (itemsU items)
 free:∀ u∈itemsU items,∀ b,u.ownBlock=some b→v.ownBlock≠some b
section
variable {B:Nat} {T:TypeId} {W w w':World} {items:List PItem} {v v':Value}
theorem PRel.start (w:World):PRel w.heap.size T w [] (.slice none 0 0) w:=
 ⟨Below.refl _ _,Nat.le_refl _,World.ownsRow_nil _ _ _ _,(fun x hx=>by cases hx),Blk.nil _ _,ApartV.nil,(fun u hu=>by simp [itemsU] at hu)⟩
theorem PRel.rowBlk (h:PRel B T W items v w) {b:Nat} (hb:v.ownBlock=some b):B≤b∧b<w.heap.size:=World.ownsRow.lt h.row b hb
theorem PRel.keep (h:PRel B T W items v w) (hb:Below w.heap.size w w'):PRel B T W items v w':=by
 have hg:w.grownBy w' none:=⟨hb.os,hb.tape,hb.output,hb.size,fun k hk _=>hb.block k hk⟩
 refine ⟨h.below.trans (hb.mono h.Bw),Nat.le_trans h.Bw hb.size,World.ownsRow.kept h.row hg ?_,fun x hx=>⟨(h.own x hx).1,(h.own x hx).2.below hb⟩,h.blk.mono (Nat.le_refl _) hb.size,h.apart,h.free⟩
 cases v.ownBlock with
 |none=>exact .inl rfl
 |some b=>exact .inr (fun e=>by cases e)
theorem PRel.form (h:PRel B T W items v w):∃ p c,v= .slice p items.length c:=by
 rcases h.row.2 with ⟨rfl,h0⟩|⟨g,c,_,rfl,_⟩
 ·exact ⟨none,0,by rw [h0]⟩
 ·exact ⟨_,c,rfl⟩
theorem PRel.push (h:PRel B T W items v w) {x:PItem} {lo:Nat} (hf:x.1.Fine) (ho:OL w LV x.2.1 x.1.list x.2.2) (hbk:Blk lo w.heap.size x.2.2) (hap:ApartV x.2.2) (hlo:∀ u∈itemsU items,∀ b,u.ownBlock=some b→b<lo) (hv:∀ b,v.ownBlock=some b→b<lo) (hB:B≤lo)
 (hr:w'.ownsRow B T 5 v' (items.length+1) (cellsL (itemsX items)++x.1.cells x.2.1)) (hg:w.grownBy w' v.ownBlock) (hat:v'.ownBlock=v.ownBlock∨v'.ownBlock=some w.heap.size):PRel B T W (items++[x]) v' w':=by
 have hu:itemsU (items++[x])=itemsU items++x.2.2:=by simp [itemsU]
 have hx:cellsL (itemsX (items++[x]))=cellsL (itemsX items)++x.1.cells x.2.1:=by simp [cellsL,itemsX]
 have hk:∀ {n:Nat} {lv:Value} {ts:List VT} {us:List Value},OL w n lv ts us→(∀ u∈us,∀ b,u.ownBlock=some b→v.ownBlock≠some b)→OL w' n lv ts us:=fun ho hn=>ho.heap hg.size fun u hu b hb=>hg.block b (ho.lt u hu b hb) (fun e=>hn u hu b hb e.symm)
 have hxn:∀ u∈x.2.2,∀ b,u.ownBlock=some b→v.ownBlock≠some b:=fun u hu b hb e=>by have:=hbk u hu b hb;have:=hv b e;omega
 refine ⟨h.below.grown hg h.Bw fun k e=>(h.rowBlk e).1,Nat.le_trans h.Bw hg.size,by rw [hx,List.length_append];exact hr,fun y hy=>?_,?_,?_,fun u hu' b hb=>?_⟩
 ·rcases List.mem_append.1 hy with hy|hy
  ·exact ⟨(h.own y hy).1,hk (h.own y hy).2 fun u hu=>h.free u (itemsU_mem.2 ⟨y,hy,hu⟩)⟩
  ·rw [List.mem_singleton.1 hy];exact ⟨hf,hk ho hxn⟩
 ·rw [hu];exact (h.blk.mono (Nat.le_refl _) hg.size).append (hbk.mono hB hg.size)
 ·rw [hu]
  exact List.pairwise_append.2 ⟨h.apart,hap,fun a ha b hb y hy hy'=>by have:=hlo a ha y hy;have:=hbk b hb y hy';omega⟩
 ·rw [hu] at hu'
  have hlt:b<w.heap.size:=by
   rcases List.mem_append.1 hu' with h1|h1
   ·exact (h.blk u h1 b hb).2
   ·exact (hbk u h1 b hb).2
  rcases hat with hat|hat
  ·rw [hat]
   rcases List.mem_append.1 hu' with h1|h1
   ·exact h.free u h1 b hb
   ·exact hxn u h1 b hb
  ·rw [hat];intro e;cases e;omega
theorem ownsRow_cut {n m c:Nat} {p:Option Addr} {xs:List Value} (h:w.ownsRow B T 5 (.slice p n c) n xs) (hm:m≤n):w.ownsRow B T 5 (.slice p m c) m (xs.take (m*5)):=by
 obtain ⟨hl,h⟩:=h
 refine ⟨by rw [List.length_take];omega,?_⟩
 rcases h with ⟨e,h0⟩|⟨g,cap,cur,e,hb,hg,hnc,hcm,hcs,htk⟩
 ·cases e
  exact .inl ⟨by rw [show m=0 by omega],by omega⟩
 ·cases e
  exact .inr ⟨g,c,cur,rfl,hb,hg,by omega,hcm,hcs,by rw [←htk,List.take_take];congr 1;omega⟩
theorem cellsL_take:∀ (xs:List (VT×Value)) (m:Nat),(cellsL xs).take (m*5)=cellsL (xs.take m)
 |[],m=>by simp [cellsL]
 |x::r,0=>by simp [cellsL]
 |x::r,m+1=>by
  have ih:=cellsL_take r m
  show ((x.1.cells x.2)++cellsL r).take ((m+1)*5)=(x.1.cells x.2)++cellsL (r.take m)
  rw [List.take_append,vt_cells_len,show (m+1)*5-5=m*5 by omega,ih,List.take_of_length_le (by rw [vt_cells_len];omega)]
theorem PRel.cut {p:Option Addr} {n c:Nat} (h:PRel B T W items (.slice p n c) w) {m:Nat} (hm:m≤n):PRel B T W (items.take m) (.slice p m c) w:=by
 have hn:n=items.length:=by
  obtain ⟨p',c',e⟩:=h.form
  cases e;rfl
 have hsub:∀ u,u∈itemsU (items.take m)→u∈itemsU items:=fun u hu=>by
  obtain ⟨x,hx,h⟩:=itemsU_mem.1 hu
  exact itemsU_mem.2 ⟨x,List.mem_of_mem_take hx,h⟩
 have hr:=h.row
 rw [←hn] at hr
 have hr2:=ownsRow_cut hr hm
 rw [cellsL_take] at hr2
 have hl:(items.take m).length=m:=by rw [List.length_take];omega
 refine ⟨h.below,h.Bw,?_,fun x hx=>h.own x (List.mem_of_mem_take hx),fun u hu=>h.blk u (hsub u hu),?_,fun u hu=>?_⟩
 ·rw [hl,itemsX,List.map_take]
  exact hr2
 ·unfold itemsU
  rw [List.map_take]
  have:(items.map fun x=>x.2.2).flatten=((items.map fun x=>x.2.2).take m).flatten++((items.map fun x=>x.2.2).drop m).flatten:=by rw [←List.flatten_append,List.take_append_drop]
  have hap:=h.apart
  unfold itemsU at hap
  rw [this] at hap
  exact (List.pairwise_append.1 hap).1
 ·have e:(Value.slice p m c).ownBlock=(Value.slice p n c).ownBlock:=by cases p<;>rfl
  rw [e]
  exact h.free u (hsub u hu)
theorem OL.of_row {lo:Nat} (hr:w.ownsRow lo T 5 v items.length (cellsL (itemsX items))) (ho:∀ x∈items,x.1.Fine∧OL w LV x.2.1 x.1.list x.2.2) (hm:items.length≤maxLen):OL w (LV+1) v (itemsT items) (itemsU items++[v]):=by
 rcases hr.2 with ⟨rfl,h0⟩|⟨g,cap,cur,rfl,hb,hg,hnc,hcm,hcs,htk⟩
 ·have:items=[]:=List.eq_nil_of_length_eq_zero h0
  subst this
  exact .inl ⟨rfl,rfl,rfl⟩
 ·have hlen:(itemsT items).length=items.length:=by simp [itemsT]
  refine .inr ⟨g,cap,items.map fun x=>x.2.2,by rw [hlen],(Array.getElem?_eq_some_iff.1 hg).1,by rw [hlen];exact hnc,by rw [hlen];exact hm,fun j hj=>⟨?_,by unfold World.frozen?;rw [hg];simp⟩,by rw [hlen];simp,rfl,fun i t us ht hu=>?_⟩
  ·rw [Nat.zero_add]
   unfold World.cell?
   rw [hg]
   simp
   omega
  ·unfold itemsT at ht
   rw [List.getElem?_map] at ht hu
   obtain ⟨x,hx,rfl⟩:=Option.map_eq_some_iff.1 ht
   rw [hx] at hu
   cases hu
   obtain ⟨hf,ho'⟩:=ho x (List.mem_of_getElem? hx)
   have hi:=(List.getElem?_eq_some_iff.1 hx).1
   have hxx:(itemsX items)[i]? =some (x.1,x.2.1):=by unfold itemsX;rw [List.getElem?_map,hx];rfl
   have k:∀ j u,j<5→(x.1.cells x.2.1)[j]? =some u→w.cell? ⟨g,i*5+j,none⟩=some u:=fun j u hj hu=>by
    have:=cellsL_at hxx j hj
    rw [←htk,List.getElem?_take_of_lt (by omega),Array.getElem?_toList,hu] at this
    unfold World.cell?
    rw [hg]
    simpa using this
   exact ⟨hf,x.2.1,⟨k 0 _ (by omega) rfl,k 1 _ (by omega) rfl,k 2 _ (by omega) rfl,k 3 _ (by omega) rfl,k 4 _ (by omega) rfl⟩,ho'⟩
theorem PRel.at (h:PRel B T W items v w) {i:Nat} {x:PItem} (hx:items[i]? =some x):∃ g c,v= .slice (some ⟨g,0,none⟩) items.length c∧At5 w g (i*5) x.1 x.2.1:=by
 have hi:=(List.getElem?_eq_some_iff.1 hx).1
 rcases h.row.2 with ⟨rfl,h0⟩|⟨g,cap,cur,rfl,hb,hg,hnc,hcm,hcs,htk⟩
 ·omega
 ·have hxx:(itemsX items)[i]? =some (x.1,x.2.1):=by unfold itemsX;rw [List.getElem?_map,hx];rfl
  have k:∀ j u,j<5→(x.1.cells x.2.1)[j]? =some u→w.cell? ⟨g,i*5+j,none⟩=some u:=fun j u hj hu=>by
   have:=cellsL_at hxx j hj
   rw [←htk,List.getElem?_take_of_lt (by omega),Array.getElem?_toList,hu] at this
   unfold World.cell?
   rw [hg]
   simpa using this
  exact ⟨g,cap,rfl,k 0 _ (by omega) rfl,k 1 _ (by omega) rfl,k 2 _ (by omega) rfl,k 3 _ (by omega) rfl,k 4 _ (by omega) rfl⟩
end
theorem trim_at:∀ (l:List VT) (m:Nat),m≤l.length→(∀ (i:Nat) (x:VT),m≤i→l[i]? =some x→x.kind=0)→(m=0∨∃ x,l[m-1]? =some x∧x.kind≠0)→trimT l=l.take m
 |[],m,h,_,_=>by simp at h;subst h;rfl
 |a::r,0,_,h,_=>by
  have ih:=trim_at r 0 (Nat.zero_le _) (fun i x _ hx=>h (i+1) x (Nat.zero_le _) (by simpa using hx)) (.inl rfl)
  have ha:=h 0 a (Nat.zero_le _) rfl
  unfold trimT
  rw [ih]
  simp [ha]
 |a::r,m+1,hm,h,hk=>by
  have hm':m≤r.length:=by simpa using hm
  have h':∀ (i:Nat) (x:VT),m≤i→r[i]? =some x→x.kind=0:=fun i x hi hx=>h (i+1) x (by omega) (by simpa using hx)
  by_cases h0:m=0
  ·subst h0
   have ih:=trim_at r 0 (Nat.zero_le _) h' (.inl rfl)
   obtain ⟨x,hx,hxk⟩:=hk.resolve_left (by omega)
   simp at hx
   subst hx
   unfold trimT
   rw [ih]
   simp [hxk]
  ·obtain ⟨x,hx,hxk⟩:=hk.resolve_left (by omega)
   have hx':r[m-1]? =some x:=by
    rw [show m+1-1=(m-1)+1 by omega,List.getElem?_cons_succ] at hx
    exact hx
   have ih:=trim_at r m hm' h' (.inr ⟨x,hx',hxk⟩)
   unfold trimT
   rw [ih,List.take_succ_cons]
   cases r with
   |nil=>simp at hx'
   |cons b s=>
    obtain ⟨m',rfl⟩:∃ m',m=m'+1:=⟨m-1,by omega⟩
    rw [List.take_succ_cons]
section
variable {B:Nat} {T T2:TypeId} {W w:World} {items:List PItem} {v:Value}
theorem PRel.view {p:Option Addr} {n c:Nat} (h:PRel B T W items (.slice p n c) w):n=items.length∧∀ (i:Nat) (x:VT×Value),(itemsX items)[i]? =some x→(∃ q n d,x.2= .slice q n d)∧∃ b off,p=some ⟨b,off,none⟩∧At5 w b (off+i*5) x.1 x.2:=by
 have hn:n=items.length:=by
  obtain ⟨p',c',e⟩:=h.form
  cases e;rfl
 refine ⟨hn,fun i x hx=>?_⟩
 unfold itemsX at hx
 rw [List.getElem?_map] at hx
 obtain ⟨y,hy,rfl⟩:=Option.map_eq_some_iff.1 hx
 obtain ⟨g,c',e,ha⟩:=h.at hy
 obtain ⟨q,d,e2⟩:=(h.own y (List.mem_of_getElem? hy)).2.slice
 refine ⟨⟨q,_,d,e2⟩,g,0,by cases e;rfl,by rw [Nat.zero_add];exact ha⟩
theorem PRel.cap {p:Option Addr} {n c:Nat} (h:PRel B T W items (.slice p n c) w):n≤c:=by
 have hn:=(h.view).1
 rcases h.row.2 with ⟨e,h0⟩|⟨g,cap,cur,e,hb,hg,hnc,hcm,hcs,htk⟩
 ·omega
 ·cases e;omega
theorem sliceRow {lo n:Nat} {xs:List Value} (h:w.ownsRow lo T 5 v n xs):∃ p c,v= .slice p n c:=by
 rcases h.2 with ⟨rfl,h0⟩|⟨g,c,_,rfl,_⟩
 ·exact ⟨none,0,by rw [h0]⟩
 ·exact ⟨_,c,rfl⟩
theorem pack_end {wr w5:World} {b:Nat} {v5:Value} {k:Int} {vs:List Value} {cs:Array Value} (hP:PRel B T W items v wr) (hb5:Below wr.heap.size wr w5) (hr:w5.ownsRow wr.heap.size T 5 v5 items.length (cellsL (itemsX items))) (hl:items.length≤13) (hk:0≤k∧k≤120) (hn:nodesL (itemsT items)≤100000000000) (hbB:b<B) (hcs:cs= #[.int .i64 5,.int .u64 k,.string empt,.slice none 0 0,.int .i64 0,.int .i64 21,.int .u64 0,.string empt,v5,.int .i64 0]) {X:World} (hX:(w5.alloc (.cells cs T2)).setCells b 0 vs=X):
 ∃ us,OL X LV (.slice (some ⟨w5.heap.size,0,none⟩) 2 2) [.mk 5 k empt 0 [],.mk 21 0 empt 0 (itemsT items)] us∧Blk B X.heap.size us∧ApartV us:=by
 subst hX hcs
 have hBw:=hP.Bw
 have hz5:=hb5.size
 obtain ⟨hx,hz,hba⟩:=one_box (w:=w5) (cs:=[.int .i64 5,.int .u64 k,.string empt,.slice none 0 0,.int .i64 0,.int .i64 21,.int .u64 0,.string empt,v5,.int .i64 0]) (T:=T2) rfl
 have hx2:=hx.heap (w':=(w5.alloc (.cells [.int .i64 5,.int .u64 k,.string empt,.slice none 0 0,.int .i64 0,.int .i64 21,.int .u64 0,.string empt,v5,.int .i64 0].toArray T2)).setCells b 0 vs) (setCells_other (by omega) 0 vs)
 have hz2:((w5.alloc (.cells [.int .i64 5,.int .u64 k,.string empt,.slice none 0 0,.int .i64 0,.int .i64 21,.int .u64 0,.string empt,v5,.int .i64 0].toArray T2)).setCells b 0 vs).heap.size=w5.heap.size+1:=by rw [setCells_sz];exact hz
 have o5:OL w5 (LV+1) v5 (itemsT items) (itemsU items++[v5]):=OL.of_row hr (fun x hx=>⟨(hP.own x hx).1,(hP.own x hx).2.below hb5⟩) (by unfold maxLen;omega)
 have kv5:∀ c,v5.ownBlock=some c→wr.heap.size≤c∧c<w5.heap.size:=fun c hc=>World.ownsRow.lt hr c hc
 have bk5:Blk B w5.heap.size (itemsU items++[v5]):=(hP.blk.mono (Nat.le_refl _) hz5).append fun u hu c hc=>by rw [List.mem_singleton.1 hu] at hc;have:=kv5 c hc;omega
 have ap5:ApartV (itemsU items++[v5]):=hP.apart.snoc fun u hu c hc e=>by have:=hP.blk u hu c hc;have:=kv5 c e;omega
 have o6:OL ((w5.alloc (.cells [.int .i64 5,.int .u64 k,.string empt,.slice none 0 0,.int .i64 0,.int .i64 21,.int .u64 0,.string empt,v5,.int .i64 0].toArray T2)).setCells b 0 vs) (LV+1) v5 (itemsT items) (itemsU items++[v5]):=
  (o5.below hba).heap (by omega) fun u hu c hc=>setCells_other (by have:=bk5 u hu c hc;omega) 0 vs
 refine ⟨[[Value.slice none 0 0],itemsU items++[v5]].flatten++[.slice (some ⟨w5.heap.size,0,none⟩) 2 2],OL.lvN (n:=LV+2) (.inr ⟨w5.heap.size,2,[[.slice none 0 0],itemsU items++[v5]],rfl,by omega,Nat.le_refl _,by show 2≤maxLen;unfold maxLen;omega,hx2.2,rfl,rfl,fun i t us ht hu=>?_⟩) ?_,?_,?_⟩
 ·match i,ht,hu with
  |0,ht,hu=>
   cases ht;cases hu
   exact ⟨⟨by show _≤(5:Int);omega,by show (5:Int)≤_;omega,by show 0≤k;omega,by show k≤_;omega,by show _≤(0:Int);omega,by show (0:Int)≤_;omega,by show empt.size≤_;decide⟩,.slice none 0 0,⟨hx2.cell (j:=0) rfl,hx2.cell (j:=1) rfl,hx2.cell (j:=2) rfl,hx2.cell (j:=3) rfl,hx2.cell (j:=4) rfl⟩,OL.nil _ LV⟩
  |1,ht,hu=>
   cases ht;cases hu
   exact ⟨⟨by show _≤(21:Int);omega,by show (21:Int)≤_;omega,by show (0:Int)≤0;omega,by show (0:Int)≤_;omega,by show _≤(0:Int);omega,by show (0:Int)≤_;omega,by show empt.size≤_;decide⟩,v5,⟨hx2.cell (j:=5) rfl,hx2.cell (j:=6) rfl,hx2.cell (j:=7) rfl,hx2.cell (j:=8) rfl,hx2.cell (j:=9) rfl⟩,o6⟩
  |i+2,ht,hu=>simp at ht
 ·have:nodesL [.mk 5 k empt 0 [],.mk 21 0 empt 0 (itemsT items)]=nodesL (itemsT items)+2:=by simp [nodesL,nodes];omega
  unfold LV
  omega
 ·have e:[[Value.slice none 0 0],itemsU items++[v5]].flatten= .slice none 0 0::(itemsU items++[v5]):=by simp
  rw [e,hz2]
  exact ((Blk.none _ _).append (bk5.mono (Nat.le_refl _) (by omega))).append fun u hu c hc=>by rw [List.mem_singleton.1 hu] at hc;simp [Value.ownBlock] at hc;omega
 ·have e:[[Value.slice none 0 0],itemsU items++[v5]].flatten=[.slice none 0 0]++(itemsU items++[v5]):=by simp
  rw [e]
  refine ApartV.snoc ((ApartV.one _).append' ap5 (lo:=B) (hi:=B) (fun u hu c hc=>by rw [List.mem_singleton.1 hu] at hc;simp [Value.ownBlock] at hc) bk5 (.inl (Nat.le_refl _))) fun u hu c hc e=>?_
  simp [Value.ownBlock] at e
  rcases List.mem_append.1 hu with hu|hu
  ·rw [List.mem_singleton.1 hu] at hc;simp [Value.ownBlock] at hc
  ·have:=bk5 u hu c hc;omega
end
def Mild2 (rd:Rd):Prop:=∀ f x y,rd f x= .ok y→nodes y≤2*nodes x
theorem nodes_zeroT:nodes zeroT=1:=by simp [zeroT,nodes,nodesL]
theorem nodes_dflt (f:FT):nodes f.dflt=1:=by unfold FT.dflt;simp [nodes,nodesL]
theorem nodes_symArr (x:VT):nodes (symArr x)=nodes x+1:=by unfold symArr;simp [nodes,nodesL]
theorem item_nodes2 {rd:Rd} (hm:Mild2 rd) {f:FT} {x y:VT} (h:itemG rd f x= .ok y):nodes y≤2*nodes x∧(x.kind=0→y=f.dflt):=by
 have:=nodes_pos x
 unfold itemG at h
 split at h
 ·split at h
  ·cases h
  ·cases h
   exact ⟨by rw [nodes_dflt];omega,fun _=>rfl⟩
 ·rename_i hk
  refine ⟨?_,fun h=>absurd h hk⟩
  split at h
  ·cases h
   rw [nodes_symArr];omega
  ·split at h
   ·exact hm f x y h
   ·cases h
theorem items_nodes2 {rd:Rd} (hm:Mild2 rd):∀ {fs:List FT} {g:List VT} {i:Nat} {l:List VT},itemsG rd fs g i= .ok l→nodesL l≤2*nodesL g+fs.length
 |[],g,i,l,h=>by cases h;simp [nodesL]
 |f::fs,g,i,l,h=>by
  unfold itemsG at h
  split at h
  ·cases h
  ·rename_i y hy
   split at h
   ·cases h
   ·rename_i r hr
    cases h
    have h2:=items_nodes2 hm hr
    cases g with
    |nil=>
     have hz:nodes y=1:=by rw [(item_nodes2 hm hy).2 rfl,nodes_dflt]
     simp only [List.tail_nil,nodesL,List.length_cons] at h2 ⊢
     omega
    |cons a b=>
     have h1:=(item_nodes2 hm hy).1
     simp only [List.headD_cons,List.tail_cons,nodesL,List.length_cons] at h1 h2 ⊢
     omega
theorem trim_cons_nodes (a:VT) (r:List VT):nodesL (trimT (a::r))≤nodes a+nodesL (trimT r):=by
 rw [trimT]
 split
 ·split<;>simp [nodesL]
 ·rename_i h;rw [h];simp [nodesL]
theorem items_trim {rd:Rd} (hm:Mild2 rd) (hp:Plain rd) (hs:Stay rd):∀ {fs:List FT} {g:List VT} {i:Nat} {l:List VT},(∀ f∈fs,fieldGood f=true)→itemsG rd fs g i= .ok l→nodesL (trimT (List.zipWith (itemP rd) fs l))≤2*nodesL g∧(g=[]→trimT (List.zipWith (itemP rd) fs l)=[])
 |[],g,i,l,_,h=>by cases h;simp [trimT,nodesL]
 |f::fs,g,i,l,hg,h=>by
  unfold itemsG at h
  split at h
  ·cases h
  ·rename_i y hy
   split at h
   ·cases h
   ·rename_i r hr
    cases h
    have h2:=items_trim hm hp hs (fun f' hf=>hg f' (List.mem_cons_of_mem _ hf)) hr
    have h3:=item_again hp hs (hg f List.mem_cons_self) hy
    have h4:=item_nodes2 hm hy
    have hz:(g.headD zeroT).kind=0→itemP rd f y=zeroT:=fun hk=>by rw [h4.2 hk];unfold itemP;rw [if_pos (.inr (eqT_self _))]
    rw [List.zipWith_cons_cons]
    cases g with
    |nil=>
     have h5:=h2.2 rfl
     have e:trimT (itemP rd f y::List.zipWith (itemP rd) fs r)=[]:=by
      rw [trimT,h5,hz rfl];rfl
     exact ⟨by rw [e];simp [nodesL],fun _=>e⟩
    |cons a b=>
     refine ⟨?_,fun h=>by cases h⟩
     have h5:=trim_cons_nodes (itemP rd f y) (List.zipWith (itemP rd) fs r)
     have h6:nodes (itemP rd f y)≤2*nodes a:=by
      have:=nodes_pos a
      have h7:=h4.1
      simp only [List.headD_cons] at h7
      rcases h3.2 with e|e<;>rw [e]
      ·rw [nodes_zeroT];omega
      ·exact h7
     have h7:=h2.1
     simp only [List.tail_cons,nodesL] at h7 ⊢
     omega
theorem norm_nodes2 {rd:Rd} (hm:Mild2 rd) (hp:Plain rd) (hs:Stay rd) {v:VT} {k:Int} {l:List VT} (h:unpackG rd v= .ok (k,l)):nodes (packG rd k l)≤2*nodes v:=by
 obtain ⟨fs,hk,hf,d,x,h3,h4,h5,h6⟩:=unpackG_ok h
 have h1:=(items_trim hm hp hs (fun f hfm=>field_good hf hfm) h6).1
 have h7:=nodes_eq v
 rw [h3] at h7
 have h8:nodesL [d,x]=nodes d+nodes x:=by simp [nodesL]
 have h9:=nodes_eq x
 have h10:=nodes_pos d
 unfold packG
 rw [hf,Option.getD_some,nodes_packV]
 omega
theorem unpack_nodes2 {rd:Rd} (hm:Mild2 rd) {v:VT} {k:Int} {l:List VT} (h:unpackG rd v= .ok (k,l)):nodesL l+13≤2*(nodes v+13):=by
 obtain ⟨fs,hk,hf,d,x,h3,h4,h5,h6⟩:=unpackG_ok h
 have h1:=items_nodes2 hm h6
 have h2:=fieldsT_len hf
 have h7:=nodes_eq v
 rw [h3] at h7
 have h8:nodesL [d,x]=nodes d+nodes x:=by simp [nodesL]
 have h9:=nodes_eq x
 have:=nodes_pos d
 omega
theorem mild2F:∀ n,Mild2 (readF n)
 |0=>fun f x y h=>by
  by_cases ht:f.type=102
  ·have h:readG _ _ f x=_:=h
   unfold readG at h
   rw [if_pos ht] at h
   cases h
  ·rw [readF_plain 0 f x ht] at h
   cases h;omega
 |n+1=>fun f x y h=>by
  by_cases ht:f.type=102
  ·have h:readG _ _ f x=_:=h
   unfold readG at h
   rw [if_pos ht] at h
   split at h
   ·cases h
   ·rename_i a ha
    obtain ⟨k,l⟩:=a
    cases h
    exact norm_nodes2 (mild2F n) (readF_plain n) (stayF n) ha
  ·rw [readF_plain (n+1) f x ht] at h
   cases h;omega
theorem unpack_ready {rd:Rd} (hs:Stay rd) {v:VT} {k:Int} {l:List VT} {fs:List FT} (h:unpackG rd v= .ok (k,l)) (hf:fieldsT k=some fs):l.length=fs.length∧∀ (j:Nat) (f:FT) (y:VT),fs[j]? =some f→l[j]? =some y→y.kind=0∨eqT y f.dflt=true∨wantedT f y=true:=by
 obtain ⟨fs',_,hf',d,x,_,_,_,h6⟩:=unpackG_ok h
 rw [hf'] at hf
 cases hf
 obtain ⟨hl,hi⟩:=itemsG_ok h6
 refine ⟨hl,fun j f y hj hy=>?_⟩
 have:=hi j f y hj hy
 unfold itemG at this
 split at this
 ·split at this
  ·cases this
  ·cases this;exact .inr (.inl (eqT_self _))
 ·rename_i hk
  split at this
  ·rename_i ht
   cases this;exact .inr (.inr (wanted_arr ht.1 _))
  ·split at this
   ·rename_i hw
    exact .inr (.inr (hs f _ y hk hw this).2.1)
   ·cases this
theorem packV_fine (k:Int) (l:List VT):(packV k l).Fine:=⟨by show _≤(24:Int);omega,by show (24:Int)≤_;omega,by show (0:Int)≤0;omega,by show (0:Int)≤_;omega,by show _≤(0:Int);omega,by show (0:Int)≤_;omega,by show empt.size≤_;decide⟩
theorem fieldsC_drop {rd:Rd} {fs:List FT} {l:List VT} {j:Nat} {f:FT} {v:VT} (hf:fs[j]? =some f) (hv:l[j]? =some v):fieldsC rd (fs.drop j) (l.drop j)=if fieldC rd f v≠0 then fieldC rd f v else fieldsC rd (fs.drop (j+1)) (l.drop (j+1)):=by
 obtain ⟨h1,h1'⟩:=List.getElem?_eq_some_iff.1 hf
 obtain ⟨h2,h2'⟩:=List.getElem?_eq_some_iff.1 hv
 rw [List.drop_eq_getElem_cons h1,List.drop_eq_getElem_cons h2,h1',h2']
 rfl
theorem pack_nodes2 {rd:Rd} (hm:Mild2 rd) (k:Int) (l:List VT):nodes (packG rd k l)≤2*nodesL l+3:=by
 unfold packG
 rw [nodes_packV]
 have h1:=nodesL_trim (List.zipWith (itemP rd) ((fieldsT k).getD []) l)
 have h2:=zip_nodes (g:=itemP rd) (c:=2) (by omega) (fs:=(fieldsT k).getD []) (l:=l) fun j f y _ _=>by
  have:=nodes_pos y
  unfold itemP
  split
  ·rw [nodes_zeroT];omega
  ·cases h:rd f y with
   |error e=>show nodes zeroT≤_;rw [nodes_zeroT];omega
   |ok z=>exact hm f y z h
 omega
def LAtP (P:Nat→Prop) (w:World):Nat→Value→List VT→Prop
 |0,_,_=>False
 |n+1,v,ts=>(ts=[]∧∃ p c,v= .slice p 0 c)∨
   ∃ b off c,v= .slice (some ⟨b,off,none⟩) ts.length c∧P b∧b<w.heap.size∧ts.length≤maxLen∧∀ i t,ts[i]? =some t→t.Fine∧∃ lv,At5 w b (off+i*5) t lv∧LAtP P w n lv t.list
section
variable {w w':World} {P Q:Nat→Prop}
theorem LAtP.heap (hz:w.heap.size≤w'.heap.size) (he:∀ b,P b→b<w.heap.size→w'.heap[b]? =w.heap[b]?):∀ {n:Nat} {v:Value} {ts:List VT},LAtP P w n v ts→LAtP P w' n v ts
 |0,_,_,h=>h
 |n+1,v,ts,h=>by
  rcases h with h|⟨b,off,c,h1,h2,h3,h4,h5⟩
  ·exact .inl h
  ·exact .inr ⟨b,off,c,h1,h2,by omega,h4,fun i t ht=>let ⟨hf,lv,ha,hl⟩:=h5 i t ht;⟨hf,lv,ha.heap (he b h2 h3),LAtP.heap hz he hl⟩⟩
theorem LAtP.weak (hPQ:∀ b,P b→b<w.heap.size→Q b):∀ {n:Nat} {v:Value} {ts:List VT},LAtP P w n v ts→LAtP Q w n v ts
 |0,_,_,h=>h
 |n+1,v,ts,h=>by
  rcases h with h|⟨b,off,c,h1,h2,h3,h4,h5⟩
  ·exact .inl h
  ·exact .inr ⟨b,off,c,h1,hPQ b h2 h3,h3,h4,fun i t ht=>let ⟨hf,lv,ha,hl⟩:=h5 i t ht;⟨hf,lv,ha,LAtP.weak hPQ hl⟩⟩
theorem LAtP.mono:∀ {n m:Nat} {v:Value} {ts:List VT},n≤m→LAtP P w n v ts→LAtP P w m v ts
 |0,_,_,_,_,h=>h.elim
 |n+1,0,_,_,hn,_=>by omega
 |n+1,m+1,v,ts,hn,h=>by
  rcases h with h|⟨b,off,c,h1,h2,h3,h4,h5⟩
  ·exact .inl h
  ·exact .inr ⟨b,off,c,h1,h2,h3,h4,fun i t ht=>let ⟨hf,lv,ha,hl⟩:=h5 i t ht;⟨hf,lv,ha,LAtP.mono (by omega) hl⟩⟩
theorem LAtP.lat:∀ {n:Nat} {v:Value} {ts:List VT},LAtP P w n v ts→LAt w.heap.size w n v ts
 |0,_,_,h=>h
 |n+1,v,ts,h=>by
  rcases h with h|⟨b,off,c,h1,h2,h3,h4,h5⟩
  ·exact .inl h
  ·exact .inr ⟨b,off,c,h1,h3,h4,fun i t ht=>let ⟨hf,lv,ha,hl⟩:=h5 i t ht;⟨hf,lv,ha,LAtP.lat hl⟩⟩
theorem LAt.latP {B:Nat} (hB:B≤w.heap.size):∀ {n:Nat} {v:Value} {ts:List VT},LAt B w n v ts→LAtP (· <B) w n v ts
 |0,_,_,h=>h
 |n+1,v,ts,h=>by
  rcases h with h|⟨b,off,c,h1,h2,h3,h4⟩
  ·exact .inl h
  ·exact .inr ⟨b,off,c,h1,h2,by omega,h3,fun i t ht=>let ⟨hf,lv,ha,hl⟩:=h4 i t ht;⟨hf,lv,ha,LAt.latP hB hl⟩⟩
theorem LAtP.slice {n:Nat} {v:Value} {ts:List VT} (h:LAtP P w n v ts):∃ p c,v= .slice p ts.length c:=h.lat.slice
theorem LAtP.below {n:Nat} {v:Value} {ts:List VT} (h:LAtP P w n v ts) (hb:Below w.heap.size w w'):LAtP P w' n v ts:=h.heap hb.size fun b _ hlt=>hb.block b hlt
theorem LAtP.nil (n:Nat) (p:Option Addr) (c:Nat):LAtP P w (n+1) (.slice p 0 c) []:= .inl ⟨rfl,p,c,rfl⟩
theorem lat_level:∀ {items:List (VT×Value)},(∀ x∈items,∃ M,LAtP P w M x.2 x.1.list)→∃ M,∀ x∈items,LAtP P w M x.2 x.1.list
 |[],_=>⟨0,fun x hx=>by cases hx⟩
 |a::r,h=>by
  obtain ⟨M,hM⟩:=h a List.mem_cons_self
  obtain ⟨K,hK⟩:=lat_level (items:=r) fun x hx=>h x (List.mem_cons_of_mem _ hx)
  refine ⟨max M K,fun x hx=>?_⟩
  rcases List.mem_cons.1 hx with rfl|hx
  ·exact hM.mono (by omega)
  ·exact (hK x hx).mono (by omega)
end
structure PRL (B:Nat) (T:TypeId) (P:Nat→Prop) (W:World) (items:List (VT×Value)) (v:Value) (w:World):Prop where
 below:Below B W w
 Bw:B≤w.heap.size
 row:w.ownsRow B T 5 v items.length (cellsL items)
 own:∀ x∈items,x.1.Fine∧∃ M,LAtP (fun b=>P b∧v.ownBlock≠some b) w M x.2 x.1.list
section
variable {B:Nat} {T:TypeId} {P:Nat→Prop} {W w w':World} {items:List (VT×Value)} {v v':Value}
theorem PRL.start (w:World):PRL w.heap.size T P w [] (.slice none 0 0) w:=
 ⟨Below.refl _ _,Nat.le_refl _,World.ownsRow_nil _ _ _ _,(fun x hx=>by cases hx)⟩
theorem PRL.rowBlk (h:PRL B T P W items v w) {b:Nat} (hb:v.ownBlock=some b):B≤b∧b<w.heap.size:=World.ownsRow.lt h.row b hb
theorem PRL.keep (h:PRL B T P W items v w) (hb:Below w.heap.size w w'):PRL B T P W items v w':=by
 have hg:w.grownBy w' none:=⟨hb.os,hb.tape,hb.output,hb.size,fun k hk _=>hb.block k hk⟩
 refine ⟨h.below.trans (hb.mono h.Bw),Nat.le_trans h.Bw hb.size,World.ownsRow.kept h.row hg ?_,fun x hx=>⟨(h.own x hx).1,let ⟨M,hM⟩:=(h.own x hx).2;⟨M,hM.below hb⟩⟩⟩
 cases v.ownBlock with
 |none=>exact .inl rfl
 |some b=>exact .inr (fun e=>by cases e)
theorem PRL.form (h:PRL B T P W items v w):∃ p c,v= .slice p items.length c:=by
 rcases h.row.2 with ⟨rfl,h0⟩|⟨g,c,_,rfl,_⟩
 ·exact ⟨none,0,by rw [h0]⟩
 ·exact ⟨_,c,rfl⟩
theorem PRL.away (h:PRL B T P W items v w) {P0:Nat→Prop} {lo n:Nat} {lv:Value} {ts:List VT} (hl:LAtP P0 w n lv ts) (hP:∀ b,P0 b→b<w.heap.size→P b∧(b<B∨lo≤b)) (hv:∀ b,v.ownBlock=some b→b<lo):LAtP (fun b=>P b∧v.ownBlock≠some b) w n lv ts:=
 hl.weak fun b hb hlt=>⟨(hP b hb hlt).1,fun e=>by have:=hv b e;have:=(h.rowBlk e).1;rcases (hP b hb hlt).2 with h|h<;>omega⟩
theorem PRL.push (h:PRL B T P W items v w) {x:VT×Value} {n:Nat} (hf:x.1.Fine) (ho:LAtP (fun b=>P b∧v.ownBlock≠some b) w n x.2 x.1.list)
 (hr:w'.ownsRow B T 5 v' (items.length+1) (cellsL items++x.1.cells x.2)) (hg:w.grownBy w' v.ownBlock) (hat:v'.ownBlock=v.ownBlock∨v'.ownBlock=some w.heap.size):PRL B T P W (items++[x]) v' w':=by
 have hx:cellsL (items++[x])=cellsL items++x.1.cells x.2:=by simp [cellsL]
 have hk:∀ {n:Nat} {lv:Value} {ts:List VT},LAtP (fun b=>P b∧v.ownBlock≠some b) w n lv ts→LAtP (fun b=>P b∧v'.ownBlock≠some b) w' n lv ts:=fun ho=>by
  have h1:=ho.weak (Q:=fun b=>(P b∧v.ownBlock≠some b)∧v'.ownBlock≠some b) fun b hb hlt=>⟨hb,by
   rcases hat with e|e
   ·rw [e];exact hb.2
   ·rw [e];intro e2;cases e2;omega⟩
  have h2:=h1.heap (w':=w') hg.size fun b hb hlt=>hg.block b hlt (fun e=>hb.1.2 e.symm)
  exact h2.weak fun b hb _=>⟨hb.1.1,hb.2⟩
 refine ⟨h.below.grown hg h.Bw fun k e=>(h.rowBlk e).1,Nat.le_trans h.Bw hg.size,by rw [hx,List.length_append];exact hr,fun y hy=>?_⟩
 rcases List.mem_append.1 hy with hy|hy
 ·obtain ⟨M,hM⟩:=(h.own y hy).2
  exact ⟨(h.own y hy).1,M,hk hM⟩
 ·rw [List.mem_singleton.1 hy];exact ⟨hf,n,hk ho⟩
theorem PRL.cut {p:Option Addr} {n c:Nat} (h:PRL B T P W items (.slice p n c) w) {m:Nat} (hm:m≤n):PRL B T P W (items.take m) (.slice p m c) w:=by
 have hn:n=items.length:=by
  obtain ⟨p',c',e⟩:=h.form
  cases e;rfl
 have hr:=h.row
 rw [←hn] at hr
 have hr2:=ownsRow_cut hr hm
 rw [cellsL_take] at hr2
 have hl:(items.take m).length=m:=by rw [List.length_take];omega
 have e:(Value.slice p m c).ownBlock=(Value.slice p n c).ownBlock:=by cases p<;>rfl
 refine ⟨h.below,h.Bw,by rw [hl];exact hr2,fun x hx=>?_⟩
 rw [e]
 exact h.own x (List.mem_of_mem_take hx)
theorem PRL.at (h:PRL B T P W items v w) {i:Nat} {x:VT×Value} (hx:items[i]? =some x):∃ g c,v= .slice (some ⟨g,0,none⟩) items.length c∧At5 w g (i*5) x.1 x.2∧B≤g∧g<w.heap.size:=by
 have hi:=(List.getElem?_eq_some_iff.1 hx).1
 rcases h.row.2 with ⟨rfl,h0⟩|⟨g,cap,cur,rfl,hb,hg,hnc,hcm,hcs,htk⟩
 ·omega
 ·have k:∀ j u,j<5→(x.1.cells x.2)[j]? =some u→w.cell? ⟨g,i*5+j,none⟩=some u:=fun j u hj hu=>by
   have:=cellsL_at hx j hj
   rw [←htk,List.getElem?_take_of_lt (by omega),Array.getElem?_toList,hu] at this
   unfold World.cell?
   rw [hg]
   simpa using this
  exact ⟨g,cap,rfl,⟨k 0 _ (by omega) rfl,k 1 _ (by omega) rfl,k 2 _ (by omega) rfl,k 3 _ (by omega) rfl,k 4 _ (by omega) rfl⟩,hb,(Array.getElem?_eq_some_iff.1 hg).1⟩
theorem PRL.lat (h:PRL B T P W items v w) (hP:∀ b,B≤b→P b) (hm:items.length≤maxLen):∃ M,LAtP P w M v (items.map (·.1)):=by
 obtain ⟨M,hM⟩:=lat_level fun x hx=>let ⟨M,hM⟩:=(h.own x hx).2;⟨M,hM.weak (Q:=P) fun b hb _=>hb.1⟩
 refine ⟨M+1,?_⟩
 cases items with
 |nil=>
  obtain ⟨p,c,rfl⟩:=h.form
  exact .inl ⟨rfl,p,c,rfl⟩
 |cons a r=>
  obtain ⟨g,c,rfl, -,hg1,hg2⟩:=h.at (i:=0) (x:=a) rfl
  refine .inr ⟨g,0,c,by rw [List.length_map],hP g hg1,hg2,by rw [List.length_map];exact hm,fun i t ht=>?_⟩
  rw [List.getElem?_map] at ht
  obtain ⟨x,hx,rfl⟩:=Option.map_eq_some_iff.1 ht
  obtain ⟨g',c',e,ha, -, -⟩:=h.at hx
  cases e
  exact ⟨(h.own x (List.mem_of_getElem? hx)).1,x.2,by rw [Nat.zero_add];exact ha,hM x (List.mem_of_getElem? hx)⟩
theorem PRL.packed {T2:TypeId} {b:Nat} {vs:List Value} {k:Int} {cs:Array Value} {X:World} (h:PRL B T P W items v w) (hP:∀ b',B≤b'→P b') (hb:¬P b) (hm:items.length≤maxLen) (hk:0≤k∧k≤120)
 (hcs:cs= #[.int .i64 5,.int .u64 k,.string empt,.slice none 0 0,.int .i64 0,.int .i64 21,.int .u64 0,.string empt,v,.int .i64 0]) (hX:(w.alloc (.cells cs T2)).setCells b 0 vs=X):
 ∃ M,LAtP P X M (.slice (some ⟨w.heap.size,0,none⟩) 2 2) [.mk 5 k empt 0 [],.mk 21 0 empt 0 (items.map (·.1))]:=by
 obtain ⟨M,hM⟩:=h.lat hP hm
 have hPw:=hP _ h.Bw
 have hne:w.heap.size≠b:=fun e=>hb (e▸hPw)
 have h1:(w.alloc (.cells cs T2)).heap[w.heap.size]? =some (.cells cs T2 (0,0)):=heap_alloc_new _ _
 have hz1:(w.alloc (.cells cs T2)).heap.size=w.heap.size+1:=heap_alloc_size _ _
 have hzX:X.heap.size=w.heap.size+1:=by rw [←hX,setCells_sz];exact hz1
 have h2:X.heap[w.heap.size]? =some (.cells cs T2 (0,0)):=by rw [←hX,setCells_other hne];exact h1
 have hc:∀ j u,cs[j]? =some u→X.cell? ⟨w.heap.size,j,none⟩=some u:=fun j u hu=>by
  unfold World.cell?
  rw [h2]
  simpa using hu
 have hl:LAtP P X M v (items.map (·.1)):=by
  have hbl:Below w.heap.size w (w.alloc (.cells cs T2)):=(Below.refl _ _).alloc (Nat.le_refl _) _
  rw [←hX]
  exact (hM.below hbl).heap (by rw [setCells_sz];exact Nat.le_refl _) fun b' hb' _=>setCells_other (fun e=>hb (by rw [←e];exact hb')) _ _
 subst hcs
 refine ⟨M+2,.inr ⟨w.heap.size,0,2,rfl,hPw,by omega,(by show 2≤maxLen;decide),fun i t ht=>?_⟩⟩
 match i,ht with
 |0,ht=>
  cases ht
  exact ⟨⟨by show _≤(5:Int);omega,by show (5:Int)≤_;omega,hk.1,by show k≤_;omega,by show _≤(0:Int);omega,by show (0:Int)≤_;omega,by show empt.size≤_;decide⟩,.slice none 0 0,⟨hc 0 _ rfl,hc 1 _ rfl,hc 2 _ rfl,hc 3 _ rfl,hc 4 _ rfl⟩,LAtP.nil _ _ _⟩
 |1,ht=>
  cases ht
  exact ⟨⟨by show _≤(21:Int);omega,by show (21:Int)≤_;omega,by show (0:Int)≤0;omega,by show (0:Int)≤_;omega,by show _≤(0:Int);omega,by show (0:Int)≤_;omega,by show empt.size≤_;decide⟩,v,⟨hc 5 _ rfl,hc 6 _ rfl,hc 7 _ rfl,hc 8 _ rfl,hc 9 _ rfl⟩,hl.mono (by omega)⟩
 |i+2,ht=>simp at ht
theorem zip_takes {rd:Rd} {fs:List FT} {l:List VT} {i:Nat} {f:FT} {v:VT} (hf:fs[i]? =some f) (hv:l[i]? =some v) {items:List (VT×Value)} (h:items.map (·.1)=(List.zipWith (itemP rd) fs l).take i) {x:VT×Value} (hx:x.1=itemP rd f v):(items++[x]).map (·.1)=(List.zipWith (itemP rd) fs l).take (i+1):=by
 rw [List.take_add_one,zip_get hf hv,←h,List.map_append,←hx];rfl
theorem PRL.cap {p:Option Addr} {n c:Nat} (h:PRL B T P W items (.slice p n c) w):n≤c:=by
 have hn:n=items.length:=by
  obtain ⟨p',c',e⟩:=h.form
  cases e;rfl
 rcases h.row.2 with ⟨e,h0⟩|⟨g,cap,cur,e,hb,hg,hnc,hcm,hcs,htk⟩
 ·omega
 ·cases e;omega
theorem PRL.aside (h:PRL B T P W items v w) {r:Nat} (hg:w.grownBy w' (some r)) (hr:r<B) (hP:¬P r):PRL B T P w' items v w':=by
 refine ⟨Below.refl _ _,Nat.le_trans h.Bw hg.size,World.ownsRow.kept h.row hg ?_,fun x hx=>⟨(h.own x hx).1,let ⟨M,hM⟩:=(h.own x hx).2;⟨M,hM.heap hg.size fun b hb hlt=>hg.block b hlt fun e=>?_⟩⟩⟩
 ·cases hv:v.ownBlock with
  |none=>exact .inl rfl
  |some b=>
   refine .inr (fun e=>?_)
   cases e
   have:=(h.rowBlk hv).1
   omega
 ·cases e
  exact hP hb.1
theorem PRL.here (h:PRL B T P W items v w):PRL B T P w items v w:=⟨Below.refl _ _,h.Bw,h.row,h.own⟩
end
structure SX where
 s:ST
 il:Value
 al:Value
 lv:Value
def SX.cells (x:SX):List Value:=x.s.cells x.il x.al x.lv
theorem SX.len (x:SX):x.cells.length=19:=rfl
def cellsQ (xs:List SX):List Value:=xs.flatMap SX.cells
theorem cellsQ_append (a b:List SX):cellsQ (a++b)=cellsQ a++cellsQ b:=by simp [cellsQ]
theorem cellsQ_len (xs:List SX):(cellsQ xs).length=xs.length*19:=by
 induction xs with
 |nil=>rfl
 |cons x r ih=>rw [cellsQ,List.flatMap_cons,List.length_append,SX.len];have:(r.flatMap SX.cells).length=r.length*19:=ih;rw [this,List.length_cons];omega
theorem cellsQ_at:∀ {xs:List SX} {i:Nat} {x:SX},xs[i]? =some x→∀ j,j<19→(cellsQ xs)[i*19+j]? =x.cells[j]?
 |[],i,x,h,_,_=>by simp at h
 |y::r,0,x,h,j,hj=>by
  simp at h;subst h
  show (y.cells++cellsQ r)[_]? =_
  rw [Nat.zero_mul,Nat.zero_add,List.getElem?_append_left (by rw [SX.len];exact hj)]
 |y::r,i+1,x,h,j,hj=>by
  show (y.cells++cellsQ r)[_]? =_
  rw [List.getElem?_append_right (by rw [SX.len];omega),SX.len,show (i+1)*19+j-19=i*19+j by omega]
  exact cellsQ_at (by simpa using h) j hj
def SX.ok (B N n:Nat) (w:World) (x:SX):Prop:=x.s.Fine∧LAt B w N x.il x.s.info.list∧LAt B w N x.al x.s.ann.list∧SAt B N w n x.lv x.s.inner
structure GW (B:Nat) (T1 T2:TypeId) (N n:Nat) (w0:World) (Q:List SX) (L:List (VT×Value)) (sv lv:Value) (w:World):Prop where
 below:Below B w0 w
 Bw:B≤w.heap.size
 rowS:w.ownsRow B T1 19 sv Q.length (cellsQ Q)
 rowL:w.ownsRow B T2 5 lv L.length (cellsL L)
 ne:∀ b,sv.ownBlock=some b→lv.ownBlock≠some b
 okS:∀ x∈Q,x.ok B N n w0
 okL:∀ y∈L,y.1.Fine∧LAt B w0 N y.2 y.1.list
section
variable {B N n:Nat} {T1 T2:TypeId} {w0 w w':World} {Q:List SX} {L:List (VT×Value)} {sv lv v':Value}
theorem GW.keep (h:GW B T1 T2 N n w0 Q L sv lv w) (hb:Below w.heap.size w w'):GW B T1 T2 N n w0 Q L sv lv w':=by
 have hg:w.grownBy w' none:=⟨hb.os,hb.tape,hb.output,hb.size,fun k hk _=>hb.block k hk⟩
 have hn:∀ v:Value,v.ownBlock=none∨v.ownBlock≠none:=fun v=>by cases v.ownBlock<;>simp
 exact ⟨h.below.trans (hb.mono h.Bw),Nat.le_trans h.Bw hb.size,World.ownsRow.kept h.rowS hg (hn _),World.ownsRow.kept h.rowL hg (hn _),h.ne,h.okS,h.okL⟩
theorem GW.pushS (h:GW B T1 T2 N n w0 Q L sv lv w) {x:SX} (hx:x.ok B N n w0) (hr:w'.ownsRow B T1 19 v' (Q.length+1) (cellsQ Q++x.cells)) (hg:w.grownBy w' sv.ownBlock) (hat:v'.ownBlock=sv.ownBlock∨v'.ownBlock=some w.heap.size):GW B T1 T2 N n w0 (Q++[x]) L v' lv w':=by
 have hc:cellsQ (Q++[x])=cellsQ Q++x.cells:=by rw [cellsQ_append];simp [cellsQ]
 refine ⟨h.below.grown hg h.Bw fun k e=>(World.ownsRow.lt h.rowS k e).1,Nat.le_trans h.Bw hg.size,by rw [hc,List.length_append];exact hr,World.ownsRow.kept h.rowL hg ?_,fun b hb=>?_,fun y hy=>?_,h.okL⟩
 ·cases hl:lv.ownBlock with
  |none=>exact .inl rfl
  |some b=>exact .inr fun e=>h.ne b e.symm hl
 ·rcases hat with e|e
  ·rw [e] at hb;exact h.ne b hb
  ·rw [e] at hb
   cases hb
   intro e2
   have:=(World.ownsRow.lt h.rowL _ e2).2
   omega
 ·rcases List.mem_append.1 hy with hy|hy
  ·exact h.okS y hy
  ·rw [List.mem_singleton.1 hy];exact hx
theorem cellsL_append (a b:List (VT×Value)):cellsL (a++b)=cellsL a++cellsL b:=by simp [cellsL]
theorem GW.pushL (h:GW B T1 T2 N n w0 Q L sv lv w) {ys:List (VT×Value)} (hy:∀ y∈ys,y.1.Fine∧LAt B w0 N y.2 y.1.list) (hr:w'.ownsRow B T2 5 v' (L.length+ys.length) (cellsL L++cellsL ys)) (hg:w.grownBy w' lv.ownBlock) (hat:v'.ownBlock=lv.ownBlock∨v'.ownBlock=some w.heap.size):GW B T1 T2 N n w0 Q (L++ys) sv v' w':=by
 refine ⟨h.below.grown hg h.Bw fun k e=>(World.ownsRow.lt h.rowL k e).1,Nat.le_trans h.Bw hg.size,World.ownsRow.kept h.rowS hg ?_,by rw [cellsL_append,List.length_append];exact hr,fun b hb=>?_,h.okS,fun y hm=>?_⟩
 ·cases hl:sv.ownBlock with
  |none=>exact .inl rfl
  |some b=>exact .inr fun e=>h.ne b hl e.symm
 ·rcases hat with e|e
  ·rw [e];exact h.ne b hb
  ·rw [e]
   intro e2
   cases e2
   have:=(World.ownsRow.lt h.rowS _ hb).2
   omega
 ·rcases List.mem_append.1 hm with hm|hm
  ·exact h.okL y hm
  ·exact hy y hm
theorem GW.formS (h:GW B T1 T2 N n w0 Q L sv lv w):∃ p c,sv= .slice p Q.length c:=by
 rcases h.rowS.2 with ⟨rfl,h0⟩|⟨g,c,_,rfl,_⟩
 ·exact ⟨none,0,by rw [h0]⟩
 ·exact ⟨_,c,rfl⟩
theorem GW.formL (h:GW B T1 T2 N n w0 Q L sv lv w):∃ p c,lv= .slice p L.length c:=by
 rcases h.rowL.2 with ⟨rfl,h0⟩|⟨g,c,_,rfl,_⟩
 ·exact ⟨none,0,by rw [h0]⟩
 ·exact ⟨_,c,rfl⟩
theorem GW.atS (h:GW B T1 T2 N n w0 Q L sv lv w) {i:Nat} {x:SX} (hx:Q[i]? =some x):∃ g c,sv= .slice (some ⟨g,0,none⟩) Q.length c∧Cells w g (i*19) x.cells∧B≤g∧g<w.heap.size:=by
 have hi:=(List.getElem?_eq_some_iff.1 hx).1
 rcases h.rowS.2 with ⟨rfl,h0⟩|⟨g,cap,cur,rfl,hb,hg,hnc,hcm,hcs,htk⟩
 ·omega
 ·refine ⟨g,cap,rfl,fun j u hu=>?_,hb,(Array.getElem?_eq_some_iff.1 hg).1⟩
  have hj:j<19:=by have:=(List.getElem?_eq_some_iff.1 hu).1;rwa [SX.len] at this
  have:=cellsQ_at hx j hj
  rw [←htk,List.getElem?_take_of_lt (by omega),Array.getElem?_toList,hu] at this
  unfold World.cell?
  rw [hg]
  simpa using this
theorem GW.lat (h:GW B T1 T2 N n w0 Q L sv lv w) (hm:L.length≤maxLen):LAt w.heap.size w (N+1) lv (L.map (·.1)):=by
 have hk:∀ y∈L,LAt w.heap.size w N y.2 y.1.list:=fun y hy=>((h.okL y hy).2.below h.below).up h.Bw
 rcases h.rowL.2 with ⟨rfl,h0⟩|⟨g,cap,cur,rfl,hb,hg,hnc,hcm,hcs,htk⟩
 ·have:L=[]:=List.eq_nil_of_length_eq_zero h0
  subst this
  exact .inl ⟨rfl,_,_,rfl⟩
 ·refine .inr ⟨g,0,cap,by rw [List.length_map],(Array.getElem?_eq_some_iff.1 hg).1,by rw [List.length_map];exact hm,fun i t ht=>?_⟩
  rw [List.getElem?_map] at ht
  obtain ⟨x,hx,rfl⟩:=Option.map_eq_some_iff.1 ht
  have hi:=(List.getElem?_eq_some_iff.1 hx).1
  have k:∀ j u,j<5→(x.1.cells x.2)[j]? =some u→w.cell? ⟨g,i*5+j,none⟩=some u:=fun j u hj hu=>by
   have:=cellsL_at hx j hj
   rw [←htk,List.getElem?_take_of_lt (by omega),Array.getElem?_toList,hu] at this
   unfold World.cell?
   rw [hg]
   simpa using this
  refine ⟨(h.okL x (List.mem_of_getElem? hx)).1,x.2,?_,hk x (List.mem_of_getElem? hx)⟩
  rw [Nat.zero_add]
  exact ⟨k 0 _ (by omega) rfl,k 1 _ (by omega) rfl,k 2 _ (by omega) rfl,k 3 _ (by omega) rfl,k 4 _ (by omega) rfl⟩
theorem ownsRow_new {size:Nat} {T:TypeId} {w:World} {cs:Array Value} {n:Nat} (hB:B≤w.heap.size) (hl:cs.size=n*size) (hn:n≤maxLen):(w.alloc (.cells cs T)).ownsRow B T size (.slice (some ⟨w.heap.size,0,none⟩) n n) n cs.toList:=
 ⟨by rw [Array.length_toList,hl],.inr ⟨w.heap.size,n,cs,rfl,hB,heap_alloc_new _ _,Nat.le_refl _,hn,hl,by rw [List.take_of_length_le (by rw [Array.length_toList,hl];exact Nat.le_refl _)]⟩⟩
theorem GW.start {xs:List SX} {ys:List (VT×Value)} {cs ds:Array Value} (hB:B≤w.heap.size) (hb:Below B w0 w) (h1:cs=(cellsL ys).toArray) (h2:ds=(cellsQ xs).toArray) (hl1:xs.length≤maxLen) (hl2:ys.length≤maxLen) (hx:∀ x∈xs,x.ok B N n w0) (hy:∀ y∈ys,y.1.Fine∧LAt B w0 N y.2 y.1.list):
 GW B T1 T2 N n w0 xs ys (.slice (some ⟨w.heap.size+1,0,none⟩) xs.length xs.length) (.slice (some ⟨w.heap.size,0,none⟩) ys.length ys.length) ((w.alloc (.cells cs T2)).alloc (.cells ds T1)):=by
 have z1:(w.alloc (.cells cs T2)).heap.size=w.heap.size+1:=heap_alloc_size _ _
 have b1:Below w.heap.size w (w.alloc (.cells cs T2)):=(Below.refl _ _).alloc (Nat.le_refl _) _
 have b2:Below (w.alloc (.cells cs T2)).heap.size (w.alloc (.cells cs T2)) ((w.alloc (.cells cs T2)).alloc (.cells ds T1)):=(Below.refl _ _).alloc (Nat.le_refl _) _
 have hg:(w.alloc (.cells cs T2)).grownBy ((w.alloc (.cells cs T2)).alloc (.cells ds T1)) none:=⟨b2.os,b2.tape,b2.output,b2.size,fun k hk _=>b2.block k hk⟩
 have r1:=ownsRow_new (B:=B) (T:=T2) (size:=5) (w:=w) (cs:=cs) (n:=ys.length) hB (by rw [h1];simp [cellsL_length]) hl2
 have r2:=ownsRow_new (B:=B) (T:=T1) (size:=19) (w:=w.alloc (.cells cs T2)) (cs:=ds) (n:=xs.length) (by omega) (by rw [h2];simp [cellsQ_len]) hl1
 rw [z1] at r2
 refine ⟨hb.trans ((b1.mono hB).trans (b2.mono (by omega))),by rw [heap_alloc_size,z1];omega,by rw [h2] at r2 ⊢;exact r2,by rw [h1] at r1 hg ⊢;exact World.ownsRow.kept r1 hg (.inr (by simp [Value.ownBlock])),fun b e=>?_,hx,hy⟩
 intro e2
 have e1:w.heap.size+1=b:=Option.some.inj e
 have e3:w.heap.size=b:=Option.some.inj e2
 omega
end
end Go.Proofs.Nu
