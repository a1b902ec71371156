/-
  The texts NuUnpack NuFault NuText NuMapR NuGood NuTurn NuOver NuBook NuBookG NuSmall of this claim, one behind the other.
-/
import Derived.Test.YtmldhjoolebjoaaGreatDoorZTFA0
set_option maxHeartbeats 40000000
namespace Go.Proofs.Nu
open Go Go.RowKit
structure pz (g m:Nat) (W:World) (ys:List VT) (w:World):Prop where
 below:Below g W w
 ZO:g<W.heap.size
 same:∀ k,k<W.heap.size→k≠g→w.heap[k]? =W.heap[k]?
 there:w.there g 0 (m*5)
 done:∃ gy:List (List Value),gy.length=ys.length∧ku W.heap.size w.heap.size gy.flatten∧aM gy.flatten∧∀ (i:Nat) (y:VT) (us:List Value),ys[i]? =some y→gy[i]? =some us→y.bD∧∃ lv,pO w g (i*5) y lv∧OL w LV lv y.list us
section
variable {g m:Nat} {W w w' w2:World} {ys:List VT}
theorem pz.start (hg:g<W.heap.size) (ht:W.there g 0 (m*5)):pz g m W [] W:=
 ⟨Below.refl _ _,hg,fun _ _ _=>rfl,ht,[],rfl,ku.nil _ _,aM.nil,fun i y us h=>by simp at h⟩
theorem pz.size (h:pz g m W ys w):W.heap.size≤w.heap.size:=h.below.size
theorem pz.keep (h:pz g m W ys w) (hb:Below w.heap.size w w'):pz g m W ys w':=by
 have hz:=h.size
 have hg:=h.ZO
 obtain ⟨gy,h1,h2,h3,h4⟩:=h.done
 refine ⟨h.below.trans (hb.mono (by omega)),hg,fun k hk hkg=>(hb.block k (by omega)).trans (h.same k hk hkg),dQ h.there (hb.block g (by omega)),gy,h1,h2.mono (Nat.le_refl _) hb.size,h3,fun i y us hy hu=>?_⟩
 obtain ⟨hf,lv,ha,ho⟩:=h4 i y us hy hu
 exact ⟨hf,lv,ha.heap (hb.block g (by omega)),ho.below hb⟩
theorem pz.box (h:pz g m W ys w) {b:Nat} {cs:List Value} (hx:eF W b cs) (hb:b<W.heap.size) (hbg:b≠g):eF w b cs:=hx.heap (h.same b hb hbg)
theorem pz.step (h:pz g m W ys w) (hl:ys.length<m) {y:VT} {lv:Value} {us:List Value} (hb:Below w.heap.size w w2) (hf:y.bD) (ho:OL w2 LV lv y.list us) (hbk:ku w.heap.size w2.heap.size us) (hap:aM us):
 w2.there g (ys.length*5) 5∧pz g m W (ys++[y]) (w2.setCells g (ys.length*5) (y.cells lv)):=by
 have hk:=h.keep hb
 have hz:=h.size
 have hg:=h.ZO
 have hsz:=hb.size
 have hj5:w2.there g (ys.length*5) 5:=fun k hk'=>by
  have:=hk.there (ys.length*5+k) (by omega)
  rwa [Nat.zero_add] at this
 obtain ⟨gy,h1,h2,h3,h4⟩:=h.done
 have zz:(w2.setCells g (ys.length*5) (y.cells lv)).heap.size=w2.heap.size:=aC ..
 refine ⟨hj5,hk.below.trans (au (Nat.le_refl _) _ _),hg,fun k h1 h2=>(aA h2 _ _).trans (hk.same k h1 h2),World.there_setCells hk.there _ _ _,gy++[us],by simp [h1],?_,?_,fun i x vs hx hv=>?_⟩
 ·rw [zz,List.flatten_append]
  exact (h2.mono (Nat.le_refl _) hsz).append (by simpa using hbk.mono hz (Nat.le_refl _))
 ·rw [List.flatten_append]
  exact h3.append (by simpa using hap) h2 (by simpa using hbk)
 ·rcases Nat.lt_or_ge i ys.length with hlt|hge
  ·rw [List.getElem?_append_left (by omega)] at hv
   rw [List.getElem?_append_left hlt] at hx
   obtain ⟨hf',gM,ha,ho'⟩:=h4 i x vs hx hv
   refine ⟨hf',gM,Ij (ha.heap (hb.block g (by omega))) (.inl (by omega)),(ho'.below hb).heap (by omega) fun u hu b hb'=>aA (fun e=>?_) _ _⟩
   have:=h2 u (List.mem_flatten.2 ⟨vs,List.mem_of_getElem? hv,hu⟩) b hb'
   omega
  ·rw [List.getElem?_append_right (by omega)] at hv
   rw [List.getElem?_append_right hge] at hx
   have e0:i-ys.length=0:=by have:=(List.getElem?_eq_some_iff.1 hx).1;simp at this;omega
   rw [h1,e0] at hv
   rw [e0] at hx
   simp at hv hx
   subst hv hx
   obtain rfl:i=ys.length:=by omega
   refine ⟨hf,lv,rG hj5,ho.heap (by omega) fun u hu b hb'=>aA (fun e=>?_) _ _⟩
   have:=hbk u hu b hb'
   omega
theorem pz.all (h:pz g m W ys w) (hl:ys.length=m) (hm:m≤1000) (hn:aj ys≤1000000000000):∃ us,OL w LV (.slice (some ⟨g,0,none⟩) m m) ys us∧ku g w.heap.size us∧aM us:=by
 obtain ⟨gy,h1,h2,h3,h4⟩:=h.done
 have hg:=h.ZO
 have hz:=h.size
 refine ⟨gy.flatten++[.slice (some ⟨g,0,none⟩) m m],OL.lvN (n:=LV+1) (.inr ⟨g,m,gy,by rw [hl],by omega,by omega,by unfold maxLen;omega,h.there,h1,rfl,fun i t us ht hu=>?_⟩) (by unfold LV;omega),(h2.mono (by omega) (Nat.le_refl _)).append fun v hv b hb=>?_,h3.snoc fun u hu b hb e=>?_⟩
 ·exact h4 i t us ht hu
 ·rw [List.mem_singleton.1 hv] at hb
  simp [Value.ownBlock] at hb
  omega
 ·have:=h2 u hu b hb
  simp [Value.ownBlock] at e
  omega
end
theorem Gl {rd:Rd}:∀ {fs:List FT} {g:List VT} {i j:Nat} {e:Int} {f:FT},fs[j]? =some f→bA rd f ((g[j]?).getD ah)= .error e→(∀ (k:Nat) (f:FT),k<j→fs[k]? =some f→∃ y,bA rd f ((g[k]?).getD ah)= .ok y)→eD rd fs g i= .error (i+j,e)
 |[],g,i,j,e,f,hf,_,_=>by simp at hf
 |f0::fs,g,i,0,e,f,hf,he,_=>by
  simp at hf;subst hf
  unfold eD
  rw [ng,he];rfl
 |f0::fs,g,i,j+1,e,f,hf,he,hk=>by
  obtain ⟨y,hy⟩:=hk 0 f0 (by omega) rfl
  unfold eD
  rw [ng,hy]
  simp only
  rw [Gl (fs:=fs) (j:=j) (e:=e) (f:=f) (by simpa using hf) (by rw [pU];exact he) fun k f' hk' hf'=>by rw [pU];exact hk (k+1) f' (by omega) hf']
  simp only
  congr 2
  omega
theorem CW {v:VT} {k:Int} (h:kindOf v=some k):∃ d x,v.list=[d,x]:=by
 unfold kindOf at h
 split at h
 ·rename_i hc
  match hl:v.list,hc.2 with
  |[d,x],_=>exact ⟨d,x,rfl⟩
 ·cases h
theorem xZ {rd:Rd} {v:VT} (h:(kindOf v).bind aN=none):bH rd v= .error (0,70):=by
 unfold bH
 cases hk:kindOf v with
 |none=>rfl
 |some k=>rw [hk] at h;simp only [Option.bind_some] at h;simp only [h]
theorem CY {rd:Rd} {v:VT} {k:Int} {fs:List FT} {d x:VT} (hk:kindOf v=some k) (hf:aN k=some fs) (hl:v.list=[d,x]):bH rd v=if x.kind≠21 then .error (0,70) else if fs.length<x.list.length then .error (fs.length,71) else
         match eD rd fs x.list 0 with
         | .error e=> .error e
         | .ok l=> .ok (k,l):=by
 unfold bH
 rw [hk]
 simp only [hf,hl]
 cases eD rd fs x.list 0<;>rfl
theorem OL.single {w5 W:World} {y:VT} {lv:Value} {us:List Value} {lo:Nat} {T:TypeId} {cs:Array Value} (ho:OL w5 LV lv y.list us) (hf:y.bD) (hbk:ku lo w5.heap.size us) (hap:aM us) (hn:nodes y≤1000000000000) (hlo:lo≤w5.heap.size) (hW:w5.alloc (.cells cs T)=W) (hcs:cs= #[.int .i64 y.kind,.int .u64 y.num,.string y.text,lv,.int .i64 y.elem]):
 ∃ us',OL W LV (.slice (some ⟨w5.heap.size,0,none⟩) 1 1) [y] us'∧ku lo W.heap.size us'∧aM us'∧Below w5.heap.size w5 W:=by
 subst hcs
 obtain ⟨hx,hz,hba⟩:=aH (w:=w5) (cs:=y.cells lv) (T:=T) hW
 refine ⟨[us].flatten++[.slice (some ⟨w5.heap.size,0,none⟩) 1 1],OL.lvN (n:=LV+1) (.inr ⟨w5.heap.size,1,[us],rfl,by omega,Nat.le_refl _,by show 1≤maxLen;unfold maxLen;omega,hx.2,rfl,rfl,fun i t vs ht hu=>?_⟩) ?_,?_,?_,hba⟩
 ·match i,ht,hu with
  |0,ht,hu=>
   cases ht;cases hu
   exact ⟨hf,lv,⟨hx.cell (j:=0) rfl,hx.cell (j:=1) rfl,hx.cell (j:=2) rfl,hx.cell (j:=3) rfl,hx.cell (j:=4) rfl⟩,ho.below hba⟩
  |i+1,ht,hu=>simp at ht
 ·have:aj [y]=nodes y:=by simp [aj]
  unfold LV
  omega
 ·have e:[us].flatten=us:=by simp
  rw [e]
  exact (hbk.mono (Nat.le_refl _) (by omega)).append fun u hu c hc=>by rw [List.mem_singleton.1 hu] at hc;simp [Value.ownBlock] at hc;omega
 ·have e:[us].flatten=us:=by simp
  rw [e]
  refine hap.snoc fun u hu c hc e=>?_
  have:=hbk u hu c hc
  simp [Value.ownBlock] at e
  omega
def abD (a:Except (Nat×Int) (Int×List VT)) (w:World) (r:Ending) (w':World):Prop:=
 Below w.heap.size w w'∧match a with
  | .ok (k,l)=>∃ lv us,r= .returned (.tuple #[.agg #[.int .i64 k,lv],.int .i64 0,.int .i64 0])∧OL w' LV lv l us∧ku w.heap.size w'.heap.size us∧aM us
  | .error (i,e)=>r= .returned (.tuple #[.agg #[.int .i64 0,.slice none 0 0],.int .i64 i,.int .i64 e])
theorem kW {rd:Rd} {fs:List FT} {g ys:List VT} {y:VT} {j:Nat} {f:FT} (hl:ys.length=j) (h:∀ (k:Nat) (f:FT) (y:VT),fs[k]? =some f→ys[k]? =some y→bA rd f ((g[k]?).getD ah)= .ok y) (hf:fs[j]? =some f) (hy:bA rd f ((g[j]?).getD ah)= .ok y):
 ∀ (k:Nat) (f:FT) (z:VT),fs[k]? =some f→(ys++[y])[k]? =some z→bA rd f ((g[k]?).getD ah)= .ok z:=fun k f' z hf' hz=>by
 rcases Nat.lt_or_ge k ys.length with hlt|hge
 ·rw [List.getElem?_append_left hlt] at hz
  exact h k f' z hf' hz
 ·rw [List.getElem?_append_right hge] at hz
  have e0:k-ys.length=0:=by have:=(List.getElem?_eq_some_iff.1 hz).1;simp at this;omega
  rw [e0] at hz
  simp at hz
  subst hz
  obtain rfl:k=j:=by omega
  rw [hf] at hf'
  cases hf'
  exact hy
theorem lU {rd:Rd} {fs:List FT} {g ys:List VT} {j:Nat} {f:FT} {e:Int} (hl:ys.length=j) (h:∀ (k:Nat) (f:FT) (y:VT),fs[k]? =some f→ys[k]? =some y→bA rd f ((g[k]?).getD ah)= .ok y) (hf:fs[j]? =some f) (he:bA rd f ((g[j]?).getD ah)= .error e):eD rd fs g 0= .error (j,e):=by
 have:=Gl (i:=0) hf he fun k f' hk hf'=>⟨ys[k]'(by omega),h k f' _ hf' (List.getElem?_eq_getElem (by omega))⟩
 rwa [Nat.zero_add] at this
theorem wT {rd:Rd} {f:FT} {y:VT} (hy:y.kind=0) (hm:f.must=false):bA rd f y= .ok f.dflt:=by unfold bA;rw [if_pos hy,hm];rfl
theorem wU {rd:Rd} {f:FT} {y:VT} (hy:y.kind=0) (hm:f.must=true):bA rd f y= .error 72:=by unfold bA;rw [if_pos hy,hm];rfl
theorem Gm {rd:Rd} {f:FT} {y:VT} (ht:f.type=101) (hk:y.kind=20):bA rd f y= .ok (gB y):=by unfold bA;rw [if_neg (by omega),if_pos ⟨ht,hk⟩]
theorem KT {rd:Rd} {f:FT} {y:VT} (h0:y.kind≠0) (hs:¬(f.type=101∧y.kind=20)) (hw:bF f y=true):bA rd f y=rd f y:=by unfold bA;rw [if_neg h0,if_neg hs,if_pos hw]
theorem Gn {rd:Rd} {f:FT} {y:VT} (h0:y.kind≠0) (hs:¬(f.type=101∧y.kind=20)) (hw:bF f y=false):bA rd f y= .error 73:=by unfold bA;rw [if_neg h0,if_neg hs,if_neg (by simp [hw])]
def cnd (c:Nat):Bool:=(decide (97≤c)&&decide (c≤122))||(decide (48≤c)&&decide (c≤57))||decide (c=45)||decide (c=58)
def eu (s:ByteArray) (k:Nat):Bool:=(s.data.toList.drop k).all fun x=>cnd x.toNat
theorem ZW {s:ByteArray} {k:Nat} (h:s.size≤k):eu s k=true:=by
 unfold eu
 rw [List.drop_eq_nil_of_le (by rw [←Lib.size_eq];exact h)]
 rfl
theorem Ws {s:ByteArray} {k:Nat} (h:k<s.size):eu s k=(cnd s[k].toNat&&eu s (k+1)):=by
 unfold eu
 rw [Cx h,List.all_cons]
def lV (s:ByteArray):Bool:=eu s 0&&decide (0<s.size)&&decide (s.size≤64)
theorem KU {s:ByteArray} {k:Nat} (h:k<s.size) (hq:eu s k=eu s 0) (hc:cnd s[k].toNat=false):lV s=false:=by
 unfold lV
 rw [←hq,Ws h,hc]
 rfl
theorem Gp {s:ByteArray} {k:Nat} (h:k<s.size) (hq:eu s k=eu s 0) (hc:cnd s[k].toNat=true):eu s (k+1)=eu s 0:=by
 rw [←hq,Ws h,hc,Bool.true_and]
theorem KW {s:ByteArray} (hq:eu s s.size=eu s 0):lV s=(decide (0<s.size)&&decide (s.size≤64)):=by
 unfold lV
 rw [←hq,ZW (Nat.le_refl _),Bool.true_and]
def Bd (s:ByteArray):Bool:=decide (s.size≤4096)&&decide (SH s<0)
def sV (t:VT):Int:=if t.kind≠0∧t.kind≠22 then 80 else aB t 1
def sW (c t:ByteArray) (i:VT):Int:=if lV c=true∧Bd t=true then sV i else 80
end Go.Proofs.Nu
namespace Go.Proofs.Nu
open Go
theorem Ow (s:ByteArray) (k:Nat) (hk:k≤s.size):ch (s.extract k s.size) 0=ch s k:=by
 have hsz:(s.extract k s.size).size=s.size-k:=by simp
 have e:∀ j,(j<s.size-k)=(k+j<s.size):=fun j=>by apply propext;omega
 simp only [ch,pr,tl,wi,get!_extract s k _ hk,hsz,Nat.zero_add,Nat.add_zero,e,Nat.add_assoc]
def kM (s:ByteArray) (n least:Int):Nat→Nat→Int→Int
 |0,_,pt=>if pt<least∨1114111<pt∨(55296≤pt∧pt≤57343) then 0 else n
 |f+1,i,pt=>if (s.get! i).toNat<128∨191<(s.get! i).toNat then 0 else kM s n least f (i+1) (64*pt+(s.get! i).toNat-128)
theorem CZ {s:ByteArray} {n least:Int} {f i:Nat} {pt:Int}:kM s n least (f+1) i pt=if (s.get! i).toNat<128∨191<(s.get! i).toNat then 0 else kM s n least f (i+1) (64*pt+(s.get! i).toNat-128):=rfl
theorem ag5 {s:ByteArray} (h:0<s.size) (hc:(s.get! 0).toNat<128):ch s 0=1:=by
 have:=(gT s 0 0 127).2 ⟨h,by omega,by omega⟩
 unfold ch;rw [if_pos this]
theorem mo (s:ByteArray) (k a b c d n:Nat):pr s k a b c d n=true↔wi s k a b=true∧wi s (k+1) c d=true∧tl s (k+2) n=true:=by simp [pr]
theorem tl0 (s:ByteArray) (k:Nat):tl s k 0=true↔True:=by simp [tl]
theorem tl1 (s:ByteArray) (k:Nat):tl s k 1=true↔wi s k 128 191=true:=by simp [tl]
theorem tl2 (s:ByteArray) (k:Nat):tl s k 2=true↔wi s k 128 191=true∧wi s (k+1) 128 191=true:=by simp [tl]
theorem yc (s:ByteArray) {A B C D:Prop} [Decidable A] [Decidable B] [Decidable C] [Decidable D] (ha:wi s 0 0 127=true↔A) (hb:pr s 0 194 223 128 191 0=true↔B)
 (hc:(pr s 0 224 224 160 191 1||(pr s 0 225 236 128 191 1||(pr s 0 237 237 128 159 1||pr s 0 238 239 128 191 1)))=true↔C)
 (hd:(pr s 0 240 240 144 191 2||(pr s 0 241 243 128 191 2||pr s 0 244 244 128 143 2))=true↔D):
 ch s 0=if A then 1 else if B then 2 else if C then 3 else if D then 4 else 0:=by
 unfold ch
 simp only [ha,hb,hc,hd]
theorem if2 {A:Prop} [Decidable A] {c:Prop} [Decidable c] {n:Int} (h:A↔¬c):(if A then n else 0)=if c then 0 else n:=by
 by_cases hc:c
 ·rw [if_pos hc,if_neg (by rw [h];exact fun h=>h hc)]
 ·rw [if_neg hc,if_pos (h.2 hc)]
theorem Wt {a b:Prop} [Decidable a] [Decidable b] {n:Int}:(if a then 0 else if b then 0 else n)=if a∨b then 0 else n:=by
 by_cases ha:a<;>by_cases hb:b<;>simp [ha,hb]
theorem ag7 {s:ByteArray} (_h:0<s.size) (h0:194≤(s.get! 0).toNat) (h1:(s.get! 0).toNat<224):((ch s 0:Nat):Int)=if s.size<2 then 0 else kM s 2 128 1 1 ((s.get! 0).toNat-192):=by
 have e:=yc s (A:=False) (B:=2≤s.size∧128≤(s.get! 1).toNat∧(s.get! 1).toNat≤191) (C:=False) (D:=False)
  (by simp only [gT,iff_false];omega) (by simp only [mo,tl0,gT,Nat.zero_add,and_true];omega) (by simp only [Bool.or_eq_true,mo,gT,iff_false];omega) (by simp only [Bool.or_eq_true,mo,gT,iff_false];omega)
 rw [e]
 clear e
 generalize hd1:(s.get! 1).toNat=d1
 simp only [kM,hd1,Wt]
 rw [←if2 (A:=2≤s.size∧128≤d1∧d1≤191) (by omega)]
 simp only [if_false]
 split<;>rfl
theorem ag8 {s:ByteArray} (h:0<s.size) (h0:224≤(s.get! 0).toNat) (h1:(s.get! 0).toNat<240):((ch s 0:Nat):Int)=if s.size<3 then 0 else kM s 3 2048 2 1 ((s.get! 0).toNat-224):=by
 generalize hd0:(s.get! 0).toNat=c at*
 generalize hd1:(s.get! 1).toNat=d1
 generalize hd2:(s.get! 2).toNat=d2
 have e:=yc s (A:=False) (B:=False) (C:=3≤s.size∧128≤d1∧d1≤191∧128≤d2∧d2≤191∧(c≠224∨160≤d1)∧(c≠237∨d1≤159)) (D:=False)
  (by simp only [gT,iff_false];omega) (by simp only [mo,gT,iff_false];omega) (by simp only [Bool.or_eq_true,mo,tl1,gT,Nat.zero_add,hd0,hd1,hd2];omega) (by simp only [Bool.or_eq_true,mo,gT,iff_false];omega)
 rw [e]
 clear e
 simp only [kM,hd1,hd2,Wt]
 rw [←if2 (A:=3≤s.size∧128≤d1∧d1≤191∧128≤d2∧d2≤191∧(c≠224∨160≤d1)∧(c≠237∨d1≤159)) (by omega)]
 simp only [if_false]
 split<;>rfl
theorem ag9 {s:ByteArray} (h:0<s.size) (h0:240≤(s.get! 0).toNat) (h1:(s.get! 0).toNat<245):((ch s 0:Nat):Int)=if s.size<4 then 0 else kM s 4 65536 3 1 ((s.get! 0).toNat-240):=by
 generalize hd0:(s.get! 0).toNat=c at*
 generalize hd1:(s.get! 1).toNat=d1
 generalize hd2:(s.get! 2).toNat=d2
 generalize hd3:(s.get! 3).toNat=d3
 have e:=yc s (A:=False) (B:=False) (C:=False) (D:=4≤s.size∧128≤d1∧d1≤191∧128≤d2∧d2≤191∧128≤d3∧d3≤191∧(c≠240∨144≤d1)∧(c≠244∨d1≤143))
  (by simp only [gT,iff_false];omega) (by simp only [mo,gT,iff_false];omega) (by simp only [Bool.or_eq_true,mo,gT,iff_false];omega) (by simp only [Bool.or_eq_true,mo,tl2,gT,Nat.zero_add,hd0,hd1,hd2,hd3];omega)
 rw [e]
 clear e
 simp only [kM,hd1,hd2,hd3,Wt]
 rw [←if2 (A:=4≤s.size∧128≤d1∧d1≤191∧128≤d2∧d2≤191∧128≤d3∧d3≤191∧(c≠240∨144≤d1)∧(c≠244∨d1≤143)) (by omega)]
 simp only [if_false]
 split<;>rfl
theorem aha {s:ByteArray} (hc:128≤(s.get! 0).toNat) (h0:(s.get! 0).toNat<194∨245≤(s.get! 0).toNat):ch s 0=0:=by
 have e:=yc s (A:=False) (B:=False) (C:=False) (D:=False)
  (by simp only [gT,iff_false];omega) (by simp only [mo,gT,iff_false];omega) (by simp only [Bool.or_eq_true,mo,gT,iff_false];omega) (by simp only [Bool.or_eq_true,mo,gT,iff_false];omega)
 rw [e]
 simp
end Go.Proofs.Nu
namespace Go.Proofs.Nu
open Go Go.RowKit
theorem ZX {l:List VT} (h:l.length%2≠0):kQ l=false:=by unfold kQ;simp [h]
theorem Wu {l:List VT} (h:2048<l.length):kQ l=false:=by
 unfold kQ
 have:¬l.length≤2048:=by omega
 simp [this]
theorem ZY {l:List VT} (h0:l.length%2=0) {a p:Nat} (hp:p<a) {x y:VT} (hx:l[2*a]? =some x) (hy:l[2*p]? =some y) (e:mM x y=true):kQ l=false:=by
 have e:=(ve x y).1 e
 subst e
 have hn:¬(keysOf l).Nodup:=fun h=>by
  have:=qO.1 h p a x hp (by rw [kR l p h0];exact hy)
  rw [kR l a h0] at this
  exact this hx
 have:oK (keysOf l)=false:=by
  cases hd:oK (keysOf l) with
  |false=>rfl
  |true=>exact absurd ((oL _).1 hd) hn
 unfold kQ
 rw [this];simp
theorem Wv {l:List VT} (h0:l.length%2=0) (h1:l.length≤2048) (h:∀ (p a:Nat) (x y:VT),p<a→l[2*a]? =some x→l[2*p]? =some y→mM x y=false):kQ l=true:=by
 have hn:(keysOf l).Nodup:=qO.2 fun p a x hp hx hy=>by
  rw [kR l p h0] at hx
  rw [kR l a h0] at hy
  have:=h p a x x hp hy hx
  rw [(ve x x).2 rfl] at this
  cases this
 unfold kQ
 rw [(oL _).2 hn]
 simp [h0,h1]
def C8 (n:Nat) (fs:List FT) (l:List VT):Prop:=∀ (j:Nat) (f:FT) (v:VT),fs[j]? =some f→l[j]? =some v→aB v 1=0∧(v.kind≠0→∃ y,ai n f v= .ok y)∧(f.type=102→v.kind≠0→bF f v=true)
def wC (n:Nat) (f:FT) (v:VT):VT:=if f.type=102∧v.kind≠0 then okV (ai n f v) else v
theorem Ox {n:Nat} {f:FT} (hg:fM f=true) {v:VT} (hv:aB v 1=0) (hr:v.kind≠0→∃ y,ai n f v= .ok y):aT (ai n) f v=if mM (wC n f v) f.dflt=true then ah else wC n f v:=by
 have h:=Q9 (Ra n) hg hv hr
 have e:A9 (kD n) f v=wC n f v:=by
  unfold A9 wC
  by_cases hc:f.type=102∧v.kind≠0
  ·rw [if_pos hc,if_pos hc]
   obtain ⟨y,hy⟩:=hr hc.2
   rw [Ra n f v hv,hy];rfl
  ·rw [if_neg hc,if_neg hc]
 rw [←h]
 unfold CB
 rw [e]
def Iu (n:Nat) (v:VT):Except (Nat×Int) (Int×List VT):=if aB v 1≠0 then .error (0,aB v 1) else oM n v
theorem Oy {n:Nat} {v:VT} {a:Int×List VT} (h:Iu n v= .ok a):aB v 1=0∧oM n v= .ok a:=by
 unfold Iu at h
 split at h
 ·cases h
 ·rename_i hc
  exact ⟨by simpa using hc,h⟩
theorem Ww {n:Nat} {v:VT} {k:Int} {l:List VT} (hc:aB v 1=0) (h:oM n v= .ok (k,l)) {fs:List FT} (hf:aN k=some fs):C8 n fs l∧l.length=fs.length∧aj l+13≤2*(nodes v+13):=by
 have hu:=xX (CK n) h hf
 have hn:=wu (zM n) h
 obtain ⟨fs',hr⟩:=dS h
 have hf':=hr.fields
 rw [hf'] at hf
 cases hf
 refine ⟨fun j f y hj hy=>?_,hu.1,hn⟩
 obtain ⟨h1,h2⟩:=KJ hc hr j f y hj hy
 refine ⟨h1,h2,fun ht hk=>?_⟩
 rcases hu.2 j f y hj hy with h|h|h
 ·exact absurd h hk
 ·have hd:=(zK (iW hf' (List.mem_of_getElem? hj)) ht).1
  rw [hd] at h
  exact absurd (xS h) hk
 ·exact h
theorem KX {n:Nat} {v:VT} {k:Int} {l:List VT} (h:Iu n v= .ok (k,l)):∃ fs,aN k=some fs∧C8 n fs l∧l.length=fs.length∧aj l+13≤2*(nodes v+13):=by
 obtain ⟨hc,h⟩:=Oy h
 obtain ⟨fs,hr⟩:=dS h
 exact ⟨fs,hr.fields,Ww hc h hr.fields⟩
def Iw (P:Nat→Prop) (a:Except (Nat×Int) (Int×List VT)) (w:World) (r:Ending) (w':World):Prop:=
 Below w.heap.size w w'∧match a with
  | .ok (k,l)=>∃ lv M,r= .returned (.tuple #[.agg #[.int .i64 k,lv],.int .i64 0,.int .i64 0])∧bu (fun b=>P b∨w.heap.size≤b) w' M lv l
  | .error (i,e)=>r= .returned (.tuple #[.agg #[.int .i64 0,.slice none 0 0],.int .i64 i,.int .i64 e])
def bY (P:Nat→Prop) (a:Except Int VT) (z:Value) (w:World) (r:Ending) (w':World):Prop:=
 Below w.heap.size w w'∧match a with
  | .ok y=>∃ lv M,r= .returned (.tuple #[y.agg lv,.int .i64 0])∧y.bD∧bu (fun b=>P b∨w.heap.size≤b) w' M lv y.list
  | .error e=>r= .returned (.tuple #[z,.int .i64 e])
theorem Be {n:Nat} {fs:List FT} {l:List VT} (h:dI (ai n) fs l=0):C8 n fs l:=fun j f v hj hv=>by
 obtain ⟨h1,h2⟩:=Gg (sN h j f v hj hv) (kU n f v)
 exact ⟨h1,fun hk=>(h2 hk).2,fun _ hk=>(h2 hk).1⟩
def C9 (n:Int):Int:=bits .xor .u64 n 1
theorem Bf (n:Int):0≤C9 n∧C9 n≤18446744073709551615:=by
 show 0≤IntKind.u64.wrap _∧IntKind.u64.wrap _≤_
 rw [IntKind.wrap_u64]
 omega
mutual
def fQ:VT→VT
 | .mk k m s e l=> .mk k (C9 m) s e (gP l)
def gP:List VT→List VT
 |[]=>[]
 |t::l=>fQ t::gP l
end
theorem pW (t:VT):fQ t= .mk t.kind (C9 t.num) t.text t.elem (gP t.list):=by cases t;rw [fQ];rfl
theorem vo:∀ l:List VT,gP l=l.map fQ
 |[]=>rfl
 |t::l=>by rw [gP,vo l];rfl
theorem iG (l:List VT):(gP l).length=l.length:=by rw [vo,List.length_map]
theorem Da {l:List VT} {i:Nat} {x:VT} (hx:l[i]? =some x):(gP l).take (i+1)=(gP l).take i++[fQ x]:=by
 rw [vo,List.take_add_one,List.getElem?_map,hx];rfl
theorem Db {t:VT} (h:t.bD):(fQ t).bD:=by
 rw [pW]
 exact ⟨h.k0,h.k1,(Bf _).1,(Bf _).2,h.e0,h.e1,h.x1⟩
mutual
theorem Bg:∀ t:VT,nodes (fQ t)=nodes t
 | .mk k m s e l=>by rw [fQ,nodes,nodes,Bh l]
theorem Bh:∀ l:List VT,aj (gP l)=aj l
 |[]=>rfl
 |t::l=>by rw [gP,aj,aj,Bg t,Bh l]
end
theorem bV.set {α:Type} {E:Nat→Nat→Nat→α→Prop} (hE:∀ i lo hi t,E i lo hi t→lo≤hi):∀ {ts:List α} {i lo hi j:Nat} {t:α},bV E i lo hi ts→ts[j]? =some t→
 ∃ x y,lo≤x∧y≤hi∧E (i+j) x y t∧∀ (F:Nat→Nat→Nat→α→Prop) (t':α),(∀ k l h s,k≠i+j→k<i+ts.length→lo≤l→h≤hi→(h≤x∨y≤l)→E k l h s→F k l h s)→F (i+j) x y t'→bV F i lo hi (ts.set j t')
 |[],_,_,_,_,_,_,h=>by simp at h
 |a::ts,i,lo,hi,0,t,⟨m,h1,h2⟩,h=>by
  simp at h
  subst h
  have hm:=(bV.imp hE h2 fun _ _ _ _ _ _ h=>h).2
  refine ⟨lo,m,Nat.le_refl _,hm,h1,fun F t' hF ht'=>⟨m,ht',(bV.imp' hE h2 fun k l h s hk hk' hl hh he=>hF k l h s (by omega) (by simp;omega) (by have:=hE _ _ _ _ h1;omega) hh (.inr hl) he).1⟩⟩
 |a::ts,i,lo,hi,j+1,t,⟨m,h1,h2⟩,h=>by
  have hlm:=hE _ _ _ _ h1
  obtain ⟨x,y,k1,k2,k3,k4⟩:=bV.set hE h2 (j:=j) (t:=t) (by simpa using h)
  have e:i+1+j=i+(j+1):=by omega
  rw [e] at k3 k4
  refine ⟨x,y,by omega,k2,k3,fun F t' hF ht'=>⟨m,hF i lo m a (by omega) (by simp) (Nat.le_refl _) (by have:=hE _ _ _ _ k3;omega) (.inl k1) h1,k4 F t' (fun k l h s hk hk' hl hh ho he=>hF k l h s hk (by simp;omega) (by omega) hh ho he) ht'⟩⟩
theorem aW.set {w:World} {n lo hi:Nat} {v:Value} {zs:List VT} {j:Nat} {t:VT} (h:aW w (n+1) lo hi v zs) (ht:zs[j]? =some t) (hs:hi≤w.heap.size):
 ∃ b x y lv,v= .slice (some ⟨b,0,none⟩) zs.length (zs.length+3)∧lo≤b∧b<x∧y≤hi∧t.bD∧pO w b (j*5) t lv∧aW w n x y lv t.list∧(∀ w2,Apart x y w w2→w2.there b (j*5) 5)∧
   ∀ w2 (t':VT),Apart x y w w2→t'.bD→aW w2 n x y lv t'.list→aW (w2.setCells b (j*5) (t'.cells lv)) (n+1) lo hi v (zs.set j t'):=by
 obtain ⟨b0,hv0,_,_,_,hA⟩:=rZ h
 obtain ⟨b,m,hv,h1,h2,h3,h4,h5,hc⟩:=h
 have hbb:b0=b:=by rw [hv] at hv0;simpa using hv0.symm
 subst hbb
 have hm:=(hc.imp (fun i l h t h=>h.1) fun _ _ _ _ _ _ h=>h).2
 have hj:j<zs.length:=(List.getElem?_eq_some_iff.1 ht).1
 obtain ⟨x,y,k1,k2,⟨k3,kf,lv,ka,kl⟩,k4⟩:=hc.set (fun i l h t h=>h.1) ht
 rw [Nat.zero_add] at ka
 have hb:b0<w.heap.size:=by omega
 have hbx:b0<x:=by omega
 have has:∀ w2,Apart x y w w2→Has w2 b0 ((zs.length+3)*5):=fun w2 ha=>hA.has.apart ha hb (.inl hbx)
 have fr:∀ w2,Apart x y w w2→∀ o,w2.frozen? ⟨b0,o,none⟩=false:=fun w2 ha o=>(ha.frozen (p:=⟨b0,o,none⟩) hb (.inl hbx)).trans (h4 o)
 refine ⟨b0,x,y,lv,hv,h1,hbx,k2,kf,ka,kl,fun w2 ha=>(has w2 ha).there (fr w2 ha) (by omega),fun w2 t' ha hf' hl'=>?_⟩
 have hs2:=ha.size
 have c2:∀ o,w2.cell? ⟨b0,o,none⟩=w.cell? ⟨b0,o,none⟩:=fun o=>ha.cell (p:=⟨b0,o,none⟩) hb (.inl hbx)
 have Ta:Apart b0 (b0+1) w2 (w2.setCells b0 (j*5) (t'.cells lv)):=eP (Nat.le_refl _) (Nat.lt_succ_self _) _ _ _ (Apart.refl _ _ _)
 have hz3:(w2.setCells b0 (j*5) (t'.cells lv)).heap.size=w2.heap.size:=setCells_size w2 b0 _ _ _
 have hin:Cells (w2.setCells b0 (j*5) (t'.cells lv)) b0 (j*5) (t'.cells lv):=(has w2 ha).aec (by show j*5+5≤_;omega)
 have hout:∀ o,(o<j*5∨j*5+5≤o)→(w2.setCells b0 (j*5) (t'.cells lv)).cell? ⟨b0,o,none⟩=w.cell? ⟨b0,o,none⟩:=fun o ho=>(World.cell?_setCells_out _ _ _ _ _ (fun _ _=>ho)).trans (c2 o)
 have keep:∀ {k:Nat} {s:VT} {u:Value},k≠j→pO w b0 (k*5) s u→pO (w2.setCells b0 (j*5) (t'.cells lv)) b0 (k*5) s u:=fun {k s u} hk h=>by
  have hx:∀ i,i<5→(w2.setCells b0 (j*5) (t'.cells lv)).cell? ⟨b0,k*5+i,none⟩=w.cell? ⟨b0,k*5+i,none⟩:=fun i hi=>hout _ (by omega)
  exact ⟨(hx 0 (by omega)).trans h.kind,(hx 1 (by omega)).trans h.num,(hx 2 (by omega)).trans h.text,(hx 3 (by omega)).trans h.list,(hx 4 (by omega)).trans h.elem⟩
 refine ⟨b0,m,by rw [List.length_set];exact hv,h1,h2,by rw [List.length_set];exact h3,fun o=>(World.frozen?_setCells _ _ _ _ _).trans (fr w2 ha o),fun k hk=>by rw [List.length_set];exact keep (by omega) (h5 k hk),?_⟩
 refine k4 _ t' (fun k l h s hk hk' hl hh ho he=>?_) ?_
 ·obtain ⟨p1,p2,u,p3,p4⟩:=he
  rw [Nat.zero_add] at hk
  have l4:=p4.le
  exact ⟨p1,p2,u,keep hk p3,(p4.apart ha (by omega) ho).apart Ta (by omega) (.inr (by omega))⟩
 ·rw [Nat.zero_add]
  exact ⟨k3,hf',lv,⟨hin 0 _ rfl,hin 1 _ rfl,hin 2 _ rfl,hin 3 _ rfl,hin 4 _ rfl⟩,hl'.apart Ta (by omega) (.inr (by omega))⟩
def wD (l:List VT) (k:Nat):List VT:=(gP l).take k++l.drop k
theorem Oz (l:List VT):wD l 0=l:=by simp [wD]
theorem Tc (l:List VT):wD l l.length=gP l:=by
 unfold wD
 rw [List.take_of_length_le (by rw [iG];exact Nat.le_refl _),List.drop_length,List.append_nil]
theorem Wx {l:List VT} {k:Nat} {t:VT} (h:l[k]? =some t):(wD l k)[k]? =some t:=by
 have hk:=(List.getElem?_eq_some_iff.1 h).1
 unfold wD
 rw [List.getElem?_append_right (by rw [List.length_take,iG];omega),List.length_take,iG,List.getElem?_drop]
 rw [show min k l.length=k by omega,Nat.sub_self,Nat.add_zero];exact h
theorem OA {l:List VT} {k:Nat} {t:VT} (h:l[k]? =some t):(wD l k).set k (fQ t)=wD l (k+1):=by
 have hk:=(List.getElem?_eq_some_iff.1 h).1
 unfold wD
 rw [Da h,List.set_append_right _ _ (by rw [List.length_take,iG];omega),List.length_take,iG,show k-min k l.length=0 by omega]
 have e:l.drop k=t::l.drop (k+1):=by
  rw [List.drop_eq_getElem_cons hk];congr 1;exact (List.getElem?_eq_some_iff.1 h).2
 rw [e,List.set_cons_zero]
 simp
theorem fI.over {B lo hi:Nat} {T:TypeId} {W w w':World} {items:List gp} {v:Value} (h:fI B T W items v w) (ha:Apart lo hi w w') (hhi:hi≤B):fI B T w' items v w':=by
 refine ⟨Below.refl _ _,Nat.le_trans h.Bw ha.size,⟨h.row.1,?_⟩,fun x hx=>⟨(h.own x hx).1,(h.own x hx).2.heap ha.size fun u hu b hb=>?_⟩,h.blk.mono (Nat.le_refl _) ha.size,h.apart,h.free⟩
 ·rcases h.row.2 with h0|⟨g,cap,cur,e,hb,hg,rest⟩
  ·exact .inl h0
  ·exact .inr ⟨g,cap,cur,e,hb,(ha.block g (Array.getElem?_eq_some_iff.1 hg).1 (.inr (by omega))).trans hg,rest⟩
 ·have:=h.blk u (gZ.2 ⟨x,hx,hu⟩) b hb
  exact ha.block b this.2 (.inr (by omega))
theorem fI.agree {B:Nat} {T:TypeId} {W w w':World} {items:List gp} {v:Value} (h:fI B T W items v w) (hz:w.heap.size≤w'.heap.size) (he:∀ b,B≤b→b<w.heap.size→w'.heap[b]? =w.heap[b]?):fI B T w' items v w':=by
 refine ⟨Below.refl _ _,Nat.le_trans h.Bw hz,⟨h.row.1,?_⟩,fun x hx=>⟨(h.own x hx).1,(h.own x hx).2.heap hz fun u hu b hb=>?_⟩,h.blk.mono (Nat.le_refl _) hz,h.apart,h.free⟩
 ·rcases h.row.2 with h0|⟨g,cap,cur,e,hb,hg,rest⟩
  ·exact .inl h0
  ·exact .inr ⟨g,cap,cur,e,hb,(he g hb (Array.getElem?_eq_some_iff.1 hg).1).trans hg,rest⟩
 ·have:=h.blk u (gZ.2 ⟨x,hx,hu⟩) b hb
  exact he b this.1 this.2
def nI (i:Nat):List Value:=[.int .i64 (-1000-(i:Int)),.int .u64 i,.string ⟨#[]⟩,.slice none 0 0,.int .i64 0]
theorem yh (i:Nat):(nI i).length=5:=rfl
theorem Wy (i:Nat):∀ u∈nI i,u.oneCell'=true:=by
 intro u hu
 simp only [nI,List.mem_cons,List.not_mem_nil,or_false] at hu
 rcases hu with h|h|h|h|h<;>subst h<;>rfl
abbrev OB:=wQ Nat
structure BInv (iR:OB) (W:World) (B:Nat) (vs gg:List Value) (N:Nat) (a:Nat→Nat) (R:List (Value×List Value)) (own:OB) (w:World):Prop where
 st:fJ nI iR W own w none
 WB:W.heap.size≤B
 Bw:B≤w.heap.size
 rows:∀ x∈R,BH B own w x.1 x.2
 vf:∀ (i:Nat) (v:Value),vs[i]? =some v→vS nI own w i (a i) N v
 gf:∀ (t:Nat) (v:Value),gg[t]? =some v→vS nI own w (t/12) (2*N) (2*N) v
section
variable {iR own own':OB} {W w w':World} {B N:Nat} {vs gg:List Value} {a:Nat→Nat} {R:List (Value×List Value)} {row:Option Nat}
theorem BInv.step (h:BInv iR W B vs gg N a R own w) (k:fJ nI own w own' w' row) (hr:∀ r,row=some r→B≤r):BInv iR W B vs gg N a R own' w':=
 ⟨h.st.V9 k (fun r e=>Nat.le_trans h.WB (hr r e)),h.WB,Nat.le_trans h.Bw k.size,fun x hx=>(h.rows x hx).step k h.Bw hr,fun i v hv=>k.ZN _ _ _ _ (h.vf i v hv),fun i v hv=>k.ZN _ _ _ _ (h.gf i v hv)⟩
theorem BInv.dom (h:BInv iR W B vs gg N a R own w):∀ b x,own b=some x→b<w.heap.size:=h.st.dom
theorem BInv.keep (h:BInv iR W B vs gg N a R own w) (hb:Below w.heap.size w w'):BInv iR W B vs gg N a R own w':=
 h.step (row:=none) (fJ.grown h.dom ⟨hb.os,hb.tape,hb.output,hb.size,fun k hk _=>hb.block k hk⟩ (fun _ e=>by cases e)) (fun _ e=>by cases e)
theorem BInv.alloc (h:BInv iR W B vs gg N a R own w) (o:Obj):BInv iR W B vs gg N a R own (w.alloc o):=h.keep ((Below.refl _ _).alloc (Nat.le_refl _) _)
theorem BInv.raise (h:BInv iR W B vs gg N a R own w) {e:TypeId} {v:Value} {xs:List Value} (ho:w.ownsRow B e 1 v xs.length xs) (hn:∀ b,v.ownBlock=some b→own b=none):BInv iR W w.heap.size vs gg N a ((v,xs)::R) own w:=
 ⟨h.st,Nat.le_trans h.WB h.Bw,Nat.le_refl _,fun x hx=>by
   rcases List.mem_cons.1 hx with rfl|hx
   ·exact BH.Ii ho hn
   ·exact (h.rows x hx).raise h.Bw,h.vf,h.gf⟩
theorem BInv.store (h:BInv iR W B vs gg N a R own w) {t k:Nat} {g off n c:Nat} (hv:vs[t]? =some (.slice (some ⟨g,off,none⟩) n c)) (hb:a t=k) (hk:k<n) {a':Nat→Nat} (h1:a' t=k+1) (h2:∀ s,s≠t→a' s=a s):
 BInv iR W B vs gg N a' R own (w.setCells g (off+k*5) (nI t)):=by
 have hf:=h.vf t _ hv
 rcases hf with h0|⟨g',off',n',c',e,hown,hnc,hnN,hth,hm⟩
 ·cases h0
 cases e
 have hst:=fJ.write h.dom hown hth (k:=k) (by omega)
 have hI:=h.step hst (fun _ e=>by cases e)
 rw [yh] at hI
 refine ⟨hI.st,hI.WB,hI.Bw,hI.rows,fun s v hs=>?_,hI.gf⟩
 by_cases hst:s=t
 ·subst hst
  rw [hv] at hs
  cases hs
  rw [h1]
  have:=vS.next (h.vf s _ hv) (by omega:a s<n)
  rw [hb,yh] at this
  exact this
 ·rw [h2 s hst];exact hI.vf s v hs
theorem BInv.full (h:BInv iR W B vs gg N a R own w) {t k:Nat} {p:Option Addr} {n c:Nat} (hv:vs[t]? =some (.slice p n c)) (hb:a t=k) (hk:n≤k) {a':Nat→Nat} (h2:∀ s,s≠t→a' s=a s):BInv iR W B vs gg N a' R own w:=by
 refine ⟨h.st,h.WB,h.Bw,h.rows,fun s v hs=>?_,h.gf⟩
 by_cases hst:s=t
 ·subst hst
  rw [hv] at hs
  cases hs
  exact (h.vf s _ hv).full (by omega)
 ·rw [h2 s hst];exact h.vf s v hs
theorem BInv.chg (h:BInv iR W B vs gg N a R own w) {a':Nat→Nat} (h2:∀ s,s<vs.length→a' s=a s):BInv iR W B vs gg N a' R own w:=
 ⟨h.st,h.WB,h.Bw,h.rows,fun s v hs=>by rw [h2 s (List.getElem?_eq_some_iff.1 hs).1];exact h.vf s v hs,h.gf⟩
theorem BInv.push (h:BInv iR W B vs gg N a R own w) {x:Value} {t M:Nat} (hx:vS nI own w t M M x) (hM:M≤2*N) (ht:gg.length/12=t):BInv iR W B vs (gg++[x]) N a R own w:=
 ⟨h.st,h.WB,h.Bw,h.rows,h.vf,fun s v hs=>by
   rcases Nat.lt_or_ge s gg.length with hlt|hge
   ·rw [List.getElem?_append_left hlt] at hs;exact h.gf s v hs
   ·rw [List.getElem?_append_right hge] at hs
    have:s-gg.length=0:=by have:=(List.getElem?_eq_some_iff.1 hs).1;simp at this;omega
    rw [this] at hs
    simp at hs
    subst hs
    obtain rfl:s=gg.length:=by omega
    rw [ht]
    exact hx.to (Nat.le_refl _) hM _⟩
theorem BInv.at (h:BInv iR W B vs gg N a R own w) {p:Option Addr} {n c:Nat} {xs:List Value} (hm:(Value.slice p n c,xs)∈R) {t:Nat} {x:Value} (hx:xs[t]? =some x):
 ∃ kb,p=some ⟨kb,0,none⟩∧w.cell? ⟨kb,t,none⟩=some x:=by
 obtain ⟨p',c',e,h2⟩:=h.rows _ hm
 simp only [Value.slice.injEq] at e
 obtain ⟨rfl,_,_⟩:=e
 obtain ⟨kb,e,_,_,hc⟩:=h2 t x hx
 exact ⟨kb,e,hc⟩
end
theorem Td (w:World) (T:TypeId) (i:Nat):∀ j u,(nI i)[j]? =some u→(w.alloc (.cells #[.int .i64 (-1000-(i:Int)),.int .u64 i,.string ⟨#[]⟩,.slice none 0 0,.int .i64 0] T)).cell? ((⟨w.heap.size,0,none⟩:Addr).add j)=some u:=fun j u hu=>by
 rw [Addr.add_mid,Nat.zero_add,World.cell?_alloc_new]
 simpa [nI] using hu
def GB (B:Nat) (e:TypeId) (own:OB) (w:World) (v:Value) (xs:List Value):Prop:=w.ownsRow B e 1 v xs.length xs∧∀ b,v.ownBlock=some b→own b=none
section
variable {iR own own':OB} {W w w':World} {B N:Nat} {vs gg:List Value} {a:Nat→Nat} {R:List (Value×List Value)} {e:TypeId} {v v':Value} {xs:List Value}
theorem GB.new:GB B e own w (.slice none 0 0) []:=⟨World.ownsRow_nil _ _ _ _,fun b h=>by simp [Value.ownBlock] at h⟩
theorem GB.blk (h:GB B e own w v xs) {x:Nat} (hx:v.ownBlock=some x):B≤x∧x<w.heap.size∧own x=none:=⟨(World.ownsRow.lt h.1 x hx).1,(World.ownsRow.lt h.1 x hx).2,h.2 x hx⟩
theorem GB.step (h:GB B e own w v xs) (k:fJ nI own w own' w' none):GB B e own' w' v xs:=by
 refine ⟨?_,fun x hx=>(k.old x (h.blk hx).2.1).trans (h.2 x hx)⟩
 obtain ⟨hl,h1⟩:=h.1
 refine ⟨hl,?_⟩
 rcases h1 with h1|⟨g,cap,cur,rfl,hb,hg,r⟩
 ·exact .inl h1
 ·have hbk:=h.blk (x:=g) rfl
  exact .inr ⟨g,cap,cur,rfl,hb,(k.kept g hbk.2.1 hbk.2.2 (by simp)).trans hg,r⟩
theorem GB.keep (h:GB B e own w v xs) (hd:∀ b x,own b=some x→b<w.heap.size) (hb:Below w.heap.size w w'):GB B e own w' v xs:=
 h.step (fJ.grown hd ⟨hb.os,hb.tape,hb.output,hb.size,fun k hk _=>hb.block k hk⟩ (fun _ e=>by cases e))
theorem GB.alloc (h:GB B e own w v xs) (hd:∀ b x,own b=some x→b<w.heap.size) (o:Obj):GB B e own (w.alloc o) v xs:=h.keep hd ((Below.refl _ _).alloc (Nat.le_refl _) _)
theorem GB.more (h:GB B e own w v xs) (hd:∀ b x,own b=some x→b<w.heap.size) {x:Value} (ho:w'.ownsRow B e 1 v' (xs.length+1) (xs++[x])) (hg:w.grownBy w' v.ownBlock) (hat:v'.ownBlock=v.ownBlock∨v'.ownBlock=some w.heap.size):
 GB B e own w' v' (xs++[x])∧fJ nI own w own w' v.ownBlock:=by
 refine ⟨⟨by simpa using ho,fun b hb=>?_⟩,fJ.grown hd hg fun k hk=>h.2 k hk⟩
 rcases hat with hat|hat
 ·exact h.2 b (hat▸hb)
 ·rw [hat] at hb
  cases hb
  cases hh:own w.heap.size with
  |none=>rfl
  |some x=>have:=hd _ _ hh;omega
theorem BInv.ZZ (h:BInv iR W B vs gg N a R own w) (hr:GB B e own w v xs) (k:fJ nI own w own' w' v.ownBlock):BInv iR W B vs gg N a R own' w':=h.step k fun _ hx=>(hr.blk hx).1
end
structure qY (T:TypeId) (w:World) (bb:Nat) (v:Value) (rows:List Value):Prop where
 box:∃ cs,cs=[v]∧Cells w bb 0 cs∧w.there bb 0 1
 row:w.ownsRow (bb+1) T 1 v rows.length rows
 lt:bb<w.heap.size
theorem qY.below {T:TypeId} {w w':World} {bb:Nat} {v:Value} {rows:List Value} (h:qY T w bb v rows) (hb:Below w.heap.size w w'):qY T w' bb v rows:=by
 obtain ⟨cs,rfl,h1,h2⟩:=h.box
 have he:=hb.block bb h.lt
 have hg:w.grownBy w' none:=⟨hb.os,hb.tape,hb.output,hb.size,fun k hk _=>hb.block k hk⟩
 refine ⟨⟨_,rfl,fun j u hu=>(World.cell?_of_block (a:=⟨bb,_,none⟩) he).trans (h1 j u hu),dQ h2 he⟩,World.ownsRow.kept h.row hg ?_,Nat.lt_of_lt_of_le h.lt hb.size⟩
 cases v.ownBlock with
 |none=>exact .inl rfl
 |some b=>exact .inr (fun e=>by cases e)
structure Bk (bb lo:Nat) (w w':World):Prop where
 os:w'.os=w.os
 tape:w'.tape=w.tape
 output:w'.output=w.output
 size:w.heap.size≤w'.heap.size
 block:∀ b,b<lo→b≠bb→w'.heap[b]? =w.heap[b]?
theorem Bk.refl (bb lo:Nat) (w:World):Bk bb lo w w:=⟨rfl,rfl,rfl,Nat.le_refl _,fun _ _ _=>rfl⟩
theorem Bk.trans {bb lo:Nat} {a b c:World} (h:Bk bb lo a b) (k:Bk bb lo b c):Bk bb lo a c:=
 ⟨k.os.trans h.os,k.tape.trans h.tape,k.output.trans h.output,Nat.le_trans h.size k.size,fun i hi hn=>(k.block i hi hn).trans (h.block i hi hn)⟩
theorem Bk.of_below {bb lo B:Nat} {a b:World} (h:Below B a b) (hB:lo≤B):Bk bb lo a b:=⟨h.os,h.tape,h.output,h.size,fun i hi _=>h.block i (by omega)⟩
theorem Bk.below {bb lo B:Nat} {a b:World} (h:Bk bb lo a b) (h1:B≤bb) (h2:B≤lo):Below B a b:=⟨h.os,h.tape,h.output,h.size,fun i hi=>h.block i (by omega) (by omega)⟩
theorem Bk.grown {bb lo:Nat} {a b:World} {r:Option Nat} (h:a.grownBy b r) (hs:lo≤a.heap.size) (hr:∀ k,r=some k→k=bb∨lo≤k):Bk bb lo a b:=
 ⟨h.os,h.tape,h.output,h.size,fun i hi hn=>h.block i (by omega) (fun e=>by rcases hr i e.symm with h|h<;>omega)⟩
structure lW (T:TypeId) (w:World) (bb lo:Nat) (v:Value) (rows:List Value):Prop where
 box:∃ cs,cs=[v]∧Cells w bb 0 cs∧w.there bb 0 1
 row:w.ownsRow lo T 1 v rows.length rows
 lt:bb<lo
 le:lo≤w.heap.size
theorem lW.of {T:TypeId} {w w':World} {bb:Nat} (h:qY T w bb (.slice none 0 0) []) (he:w'.heap[bb]? =w.heap[bb]?) (hz:w.heap.size≤w'.heap.size):lW T w' bb w'.heap.size (.slice none 0 0) []:=by
 obtain ⟨cs,rfl,h1,h2⟩:=h.box
 exact ⟨⟨_,rfl,fun j u hu=>(World.cell?_of_block (a:=⟨bb,_,none⟩) he).trans (h1 j u hu),dQ h2 he⟩,World.ownsRow_nil _ _ _ _,Nat.lt_of_lt_of_le h.lt hz,Nat.le_refl _⟩
theorem lW.below {T:TypeId} {w w':World} {bb lo:Nat} {v:Value} {rows:List Value} (h:lW T w bb lo v rows) (hb:Below w.heap.size w w'):lW T w' bb lo v rows:=by
 obtain ⟨cs,rfl,h1,h2⟩:=h.box
 have he:=hb.block bb (Nat.lt_of_lt_of_le h.lt h.le)
 have hg:w.grownBy w' none:=⟨hb.os,hb.tape,hb.output,hb.size,fun k hk _=>hb.block k hk⟩
 refine ⟨⟨_,rfl,fun j u hu=>(World.cell?_of_block (a:=⟨bb,_,none⟩) he).trans (h1 j u hu),dQ h2 he⟩,World.ownsRow.kept h.row hg ?_,h.lt,Nat.le_trans h.le hb.size⟩
 cases v.ownBlock with
 |none=>exact .inl rfl
 |some b=>exact .inr (fun e=>by cases e)
theorem OC {T:TypeId} {w:World} {bb lo:Nat} {v:Value} {rows:List Value} {N S:Nat} (h:lW T w bb lo v rows) (hr:∀ u∈rows,u= .slice none 0 0∨∃ g k c,u= .slice (some ⟨g,0,none⟩) k c∧g<w.heap.size∧k≤c∧w.there g 0 (c*5)) (hb:∀ u∈rows,∀ b,u.ownBlock=some b→S≤b∧b<lo∧b≠bb) (ha:aM rows) (hN:∀ u∈rows,∀ p n c,u= .slice p n c→n≤N):
 ∃ iR:OB,BInv iR w w.heap.size rows [] N (fun _=>0) [(v,rows),(.slice (some ⟨bb,0,none⟩) 1 1,[v])] iR w∧∀ b,b<S→iR b=none:=by
 obtain ⟨own,h1,h2⟩:=ack nI w (fun i:Nat=>rows[i]?) (fun f g x y b hf hg hx hy=>by
  rcases Nat.lt_trichotomy f g with hlt|rfl|hlt
  ·exfalso
   have:=List.pairwise_iff_getElem.1 ha f g (List.getElem?_eq_some_iff.1 hf).1 (List.getElem?_eq_some_iff.1 hg).1 hlt b (by rw [(List.getElem?_eq_some_iff.1 hf).2];exact hx)
   rw [(List.getElem?_eq_some_iff.1 hg).2] at this
   exact this hy
  ·rfl
  ·exfalso
   have:=List.pairwise_iff_getElem.1 ha g f (List.getElem?_eq_some_iff.1 hg).1 (List.getElem?_eq_some_iff.1 hf).1 hlt b (by rw [(List.getElem?_eq_some_iff.1 hg).2];exact hy)
   rw [(List.getElem?_eq_some_iff.1 hf).2] at this
   exact this hx) (fun f u hu=>by
  rcases hr u (List.mem_of_getElem? hu) with h|⟨g,k,c,e,h3,h4,h5⟩
  ·exact .inl h
  ·exact .inr ⟨g,0,k,c,e,h3,h4,by rw [yh];exact h5⟩)
 have hno:∀ b,(b=bb∨lo≤b∨b<S)→own b=none:=fun b hle=>by
  cases ho:own b with
  |none=>rfl
  |some x=>
   obtain ⟨_,u,hu,hub⟩:=h1 b x ho
   have:=hb u (List.mem_of_getElem? hu) b hub
   omega
 obtain ⟨cs,rfl,hbx,_⟩:=h.box
 refine ⟨own,⟨fJ.refl fun b x hx=>(h1 b x hx).1,Nat.le_refl _,Nat.le_refl _,fun x hx=>?_,fun i u hu=>h2 i u N hu (fun p n c e=>hN u (List.mem_of_getElem? hu) p n c e),fun t u hu=>by simp at hu⟩,fun b hlt=>hno b (.inr (.inr hlt))⟩
 simp only [List.mem_cons,List.not_mem_nil,or_false] at hx
 rcases hx with rfl|rfl
 ·exact BH.Ii h.row fun b e=>hno b (.inr (.inl (World.ownsRow.lt h.row b e).1))
 ·refine ⟨_,1,rfl,fun t x hx=>⟨bb,rfl,Nat.lt_of_lt_of_le h.lt h.le,hno bb (.inl rfl),?_⟩⟩
  have:=hbx t x hx
  rwa [Nat.zero_add] at this
mutual
theorem Wz:∀ (t:VT) (n:Nat),wt t n≤100000→n+nodes t≤wt t n
 | .mk k m s e l,n,h=>by
   rw [wt] at h ⊢
   have h1:=zN l _ h
   rw [nodes]
   omega
theorem zN:∀ (l:List VT) (n:Nat),qK l n≤100000→n+aj l≤qK l n
 |[],n,_=>by rw [qK,aj];omega
 |t::l,n,h=>by
  rw [qK] at h ⊢
  split at h
  ·rename_i hn
   rw [if_pos hn]
   have h1:=zN l _ h
   have h2:=Wz t n (by have:=Ig l (wt t n);omega)
   rw [aj]
   omega
  ·omega
end
theorem KY {l:List VT} (h:¬100000<qK l 0):aj l≤100000:=by
 have:=zN l 0 (by omega)
 omega
end Go.Proofs.Nu
