/-
  The texts NuUnpack NuNodes NuSmall NuBack NuShort NuForms NuLat NuLong of this claim, one behind the other.
-/
import Derived.Test.YtfoiaiblggapeaaDoorZSFA0
namespace Go.Proofs.Nu
open Go Go.RowKit
structure URel (g m:Nat) (W:World) (ys:List VT) (w:World):Prop where
 below:Below g W w
 glt:g<W.heap.size
 same:∀ k,k<W.heap.size→k≠g→w.heap[k]? =W.heap[k]?
 there:w.there g 0 (m*5)
 done:∃ vss:List (List Value),vss.length=ys.length∧Blk W.heap.size w.heap.size vss.flatten∧ApartV vss.flatten∧∀ (i:Nat) (y:VT) (us:List Value),ys[i]? =some y→vss[i]? =some us→y.Fine∧∃ lv,At5 w g (i*5) y lv∧OL w LV lv y.list us
section
variable {g m:Nat} {W w w' w2:World} {ys:List VT}
theorem URel.start (hg:g<W.heap.size) (ht:W.there g 0 (m*5)):URel g m W [] W:=
 ⟨Below.refl _ _,hg,fun _ _ _=>rfl,ht,[],rfl,Blk.nil _ _,ApartV.nil,fun i y us h=>by simp at h⟩
theorem URel.size (h:URel g m W ys w):W.heap.size≤w.heap.size:=h.below.size
theorem URel.keep (h:URel g m W ys w) (hb:Below w.heap.size w w'):URel g m W ys w':=by
 have hz:=h.size
 have hg:=h.glt
 obtain ⟨vss,h1,h2,h3,h4⟩:=h.done
 refine ⟨h.below.trans (hb.mono (by omega)),hg,fun k hk hkg=>(hb.block k (by omega)).trans (h.same k hk hkg),there_heap h.there (hb.block g (by omega)),vss,h1,h2.mono (Nat.le_refl _) hb.size,h3,fun i y us hy hu=>?_⟩
 obtain ⟨hf,lv,ha,ho⟩:=h4 i y us hy hu
 exact ⟨hf,lv,ha.heap (hb.block g (by omega)),ho.below hb⟩
theorem URel.box (h:URel g m W ys w) {b:Nat} {cs:List Value} (hx:Box W b cs) (hb:b<W.heap.size) (hbg:b≠g):Box w b cs:=hx.heap (h.same b hb hbg)
theorem URel.step (h:URel g m W ys w) (hl:ys.length<m) {y:VT} {lv:Value} {us:List Value} (hb:Below w.heap.size w w2) (hf:y.Fine) (ho:OL w2 LV lv y.list us) (hbk:Blk w.heap.size w2.heap.size us) (hap:ApartV us):
 w2.there g (ys.length*5) 5∧URel g m W (ys++[y]) (w2.setCells g (ys.length*5) (y.cells lv)):=by
 have hk:=h.keep hb
 have hz:=h.size
 have hg:=h.glt
 have hsz:=hb.size
 have hj5:w2.there g (ys.length*5) 5:=fun k hk'=>by
  have:=hk.there (ys.length*5+k) (by omega)
  rwa [Nat.zero_add] at this
 obtain ⟨vss,h1,h2,h3,h4⟩:=h.done
 have zz:(w2.setCells g (ys.length*5) (y.cells lv)).heap.size=w2.heap.size:=setCells_sz ..
 refine ⟨hj5,hk.below.trans (setCells_below' (Nat.le_refl _) _ _),hg,fun k h1 h2=>(setCells_other h2 _ _).trans (hk.same k h1 h2),World.there_setCells hk.there _ _ _,vss++[us],by simp [h1],?_,?_,fun i x vs hx hv=>?_⟩
 ·rw [zz,List.flatten_append]
  exact (h2.mono (Nat.le_refl _) hsz).append (by simpa using hbk.mono hz (Nat.le_refl _))
 ·rw [List.flatten_append]
  exact h3.append (by simpa using hap) h2 (by simpa using hbk)
 ·rcases Nat.lt_or_ge i ys.length with hlt|hge
  ·rw [List.getElem?_append_left (by omega)] at hv
   rw [List.getElem?_append_left hlt] at hx
   obtain ⟨hf',lv',ha,ho'⟩:=h4 i x vs hx hv
   refine ⟨hf',lv',at5_out (ha.heap (hb.block g (by omega))) (.inl (by omega)),(ho'.below hb).heap (by omega) fun u hu b hb'=>setCells_other (fun e=>?_) _ _⟩
   have:=h2 u (List.mem_flatten.2 ⟨vs,List.mem_of_getElem? hv,hu⟩) b hb'
   omega
  ·rw [List.getElem?_append_right (by omega)] at hv
   rw [List.getElem?_append_right hge] at hx
   have e0:i-ys.length=0:=by have:=(List.getElem?_eq_some_iff.1 hx).1;simp at this;omega
   rw [h1,e0] at hv
   rw [e0] at hx
   simp at hv hx
   subst hv hx
   obtain rfl:i=ys.length:=by omega
   refine ⟨hf,lv,at5_of_setCells hj5,ho.heap (by omega) fun u hu b hb'=>setCells_other (fun e=>?_) _ _⟩
   have:=hbk u hu b hb'
   omega
theorem URel.all (h:URel g m W ys w) (hl:ys.length=m) (hm:m≤1000) (hn:nodesL ys≤1000000000000):∃ us,OL w LV (.slice (some ⟨g,0,none⟩) m m) ys us∧Blk g w.heap.size us∧ApartV us:=by
 obtain ⟨vss,h1,h2,h3,h4⟩:=h.done
 have hg:=h.glt
 have hz:=h.size
 refine ⟨vss.flatten++[.slice (some ⟨g,0,none⟩) m m],OL.lvN (n:=LV+1) (.inr ⟨g,m,vss,by rw [hl],by omega,by omega,by unfold maxLen;omega,h.there,h1,rfl,fun i t us ht hu=>?_⟩) (by unfold LV;omega),(h2.mono (by omega) (Nat.le_refl _)).append fun v hv b hb=>?_,h3.snoc fun u hu b hb e=>?_⟩
 ·exact h4 i t us ht hu
 ·rw [List.mem_singleton.1 hv] at hb
  simp [Value.ownBlock] at hb
  omega
 ·have:=h2 u hu b hb
  simp [Value.ownBlock] at e
  omega
end
theorem itemsG_at {rd:Rd}:∀ {fs:List FT} {g:List VT} {i j:Nat} {e:Int} {f:FT},fs[j]? =some f→itemG rd f ((g[j]?).getD zeroT)= .error e→(∀ (k:Nat) (f:FT),k<j→fs[k]? =some f→∃ y,itemG rd f ((g[k]?).getD zeroT)= .ok y)→itemsG rd fs g i= .error (i+j,e)
 |[],g,i,j,e,f,hf,_,_=>by simp at hf
 |f0::fs,g,i,0,e,f,hf,he,_=>by
  simp at hf;subst hf
  unfold itemsG
  rw [headD_get,he];rfl
 |f0::fs,g,i,j+1,e,f,hf,he,hk=>by
  obtain ⟨y,hy⟩:=hk 0 f0 (by omega) rfl
  unfold itemsG
  rw [headD_get,hy]
  simp only
  rw [itemsG_at (fs:=fs) (j:=j) (e:=e) (f:=f) (by simpa using hf) (by rw [tail_get];exact he) fun k f' hk' hf'=>by rw [tail_get];exact hk (k+1) f' (by omega) hf']
  simp only
  congr 2
  omega
theorem kindOf_two {v:VT} {k:Int} (h:kindOf v=some k):∃ d x,v.list=[d,x]:=by
 unfold kindOf at h
 split at h
 ·rename_i hc
  match hl:v.list,hc.2 with
  |[d,x],_=>exact ⟨d,x,rfl⟩
 ·cases h
theorem unpackG_none {rd:Rd} {v:VT} (h:(kindOf v).bind fieldsT=none):unpackG rd v= .error (0,70):=by
 unfold unpackG
 cases hk:kindOf v with
 |none=>rfl
 |some k=>rw [hk] at h;simp only [Option.bind_some] at h;simp only [h]
theorem unpackG_eq {rd:Rd} {v:VT} {k:Int} {fs:List FT} {d x:VT} (hk:kindOf v=some k) (hf:fieldsT k=some fs) (hl:v.list=[d,x]):unpackG rd v=if x.kind≠21 then .error (0,70) else if fs.length<x.list.length then .error (fs.length,71) else
         match itemsG rd fs x.list 0 with
         | .error e=> .error e
         | .ok l=> .ok (k,l):=by
 unfold unpackG
 rw [hk]
 simp only [hf,hl]
 cases itemsG rd fs x.list 0<;>rfl
theorem OL.single {w5 W:World} {y:VT} {lv:Value} {us:List Value} {lo:Nat} {T:TypeId} {cs:Array Value} (ho:OL w5 LV lv y.list us) (hf:y.Fine) (hbk:Blk lo w5.heap.size us) (hap:ApartV us) (hn:nodes y≤1000000000000) (hlo:lo≤w5.heap.size) (hW:w5.alloc (.cells cs T)=W) (hcs:cs= #[.int .i64 y.kind,.int .u64 y.num,.string y.text,lv,.int .i64 y.elem]):
 ∃ us',OL W LV (.slice (some ⟨w5.heap.size,0,none⟩) 1 1) [y] us'∧Blk lo W.heap.size us'∧ApartV us'∧Below w5.heap.size w5 W:=by
 subst hcs
 obtain ⟨hx,hz,hba⟩:=one_box (w:=w5) (cs:=y.cells lv) (T:=T) hW
 refine ⟨[us].flatten++[.slice (some ⟨w5.heap.size,0,none⟩) 1 1],OL.lvN (n:=LV+1) (.inr ⟨w5.heap.size,1,[us],rfl,by omega,Nat.le_refl _,by show 1≤maxLen;unfold maxLen;omega,hx.2,rfl,rfl,fun i t vs ht hu=>?_⟩) ?_,?_,?_,hba⟩
 ·match i,ht,hu with
  |0,ht,hu=>
   cases ht;cases hu
   exact ⟨hf,lv,⟨hx.cell (j:=0) rfl,hx.cell (j:=1) rfl,hx.cell (j:=2) rfl,hx.cell (j:=3) rfl,hx.cell (j:=4) rfl⟩,ho.below hba⟩
  |i+1,ht,hu=>simp at ht
 ·have:nodesL [y]=nodes y:=by simp [nodesL]
  unfold LV
  omega
 ·have e:[us].flatten=us:=by simp
  rw [e]
  exact (hbk.mono (Nat.le_refl _) (by omega)).append fun u hu c hc=>by rw [List.mem_singleton.1 hu] at hc;simp [Value.ownBlock] at hc;omega
 ·have e:[us].flatten=us:=by simp
  rw [e]
  refine hap.snoc fun u hu c hc e=>?_
  have:=hbk u hu c hc
  simp [Value.ownBlock] at e
  omega
def UnAns (a:Except (Nat×Int) (Int×List VT)) (w:World) (r:Ending) (w':World):Prop:=
 Below w.heap.size w w'∧match a with
  | .ok (k,l)=>∃ lv us,r= .returned (.tuple #[.agg #[.int .i64 k,lv],.int .i64 0,.int .i64 0])∧OL w' LV lv l us∧Blk w.heap.size w'.heap.size us∧ApartV us
  | .error (i,e)=>r= .returned (.tuple #[.agg #[.int .i64 0,.slice none 0 0],.int .i64 i,.int .i64 e])
theorem items_push {rd:Rd} {fs:List FT} {g ys:List VT} {y:VT} {j:Nat} {f:FT} (hl:ys.length=j) (h:∀ (k:Nat) (f:FT) (y:VT),fs[k]? =some f→ys[k]? =some y→itemG rd f ((g[k]?).getD zeroT)= .ok y) (hf:fs[j]? =some f) (hy:itemG rd f ((g[j]?).getD zeroT)= .ok y):
 ∀ (k:Nat) (f:FT) (z:VT),fs[k]? =some f→(ys++[y])[k]? =some z→itemG rd f ((g[k]?).getD zeroT)= .ok z:=fun k f' z hf' hz=>by
 rcases Nat.lt_or_ge k ys.length with hlt|hge
 ·rw [List.getElem?_append_left hlt] at hz
  exact h k f' z hf' hz
 ·rw [List.getElem?_append_right hge] at hz
  have e0:k-ys.length=0:=by have:=(List.getElem?_eq_some_iff.1 hz).1;simp at this;omega
  rw [e0] at hz
  simp at hz
  subst hz
  obtain rfl:k=j:=by omega
  rw [hf] at hf'
  cases hf'
  exact hy
theorem items_fault {rd:Rd} {fs:List FT} {g ys:List VT} {j:Nat} {f:FT} {e:Int} (hl:ys.length=j) (h:∀ (k:Nat) (f:FT) (y:VT),fs[k]? =some f→ys[k]? =some y→itemG rd f ((g[k]?).getD zeroT)= .ok y) (hf:fs[j]? =some f) (he:itemG rd f ((g[j]?).getD zeroT)= .error e):itemsG rd fs g 0= .error (j,e):=by
 have:=itemsG_at (i:=0) hf he fun k f' hk hf'=>⟨ys[k]'(by omega),h k f' _ hf' (List.getElem?_eq_getElem (by omega))⟩
 rwa [Nat.zero_add] at this
theorem itemG_dflt {rd:Rd} {f:FT} {y:VT} (hy:y.kind=0) (hm:f.must=false):itemG rd f y= .ok f.dflt:=by unfold itemG;rw [if_pos hy,hm];rfl
theorem itemG_must {rd:Rd} {f:FT} {y:VT} (hy:y.kind=0) (hm:f.must=true):itemG rd f y= .error 72:=by unfold itemG;rw [if_pos hy,hm];rfl
theorem itemG_sym {rd:Rd} {f:FT} {y:VT} (ht:f.type=101) (hk:y.kind=20):itemG rd f y= .ok (symArr y):=by unfold itemG;rw [if_neg (by omega),if_pos ⟨ht,hk⟩]
theorem itemG_rd {rd:Rd} {f:FT} {y:VT} (h0:y.kind≠0) (hs:¬(f.type=101∧y.kind=20)) (hw:wantedT f y=true):itemG rd f y=rd f y:=by unfold itemG;rw [if_neg h0,if_neg hs,if_pos hw]
theorem itemG_bad {rd:Rd} {f:FT} {y:VT} (h0:y.kind≠0) (hs:¬(f.type=101∧y.kind=20)) (hw:wantedT f y=false):itemG rd f y= .error 73:=by unfold itemG;rw [if_neg h0,if_neg hs,if_neg (by simp [hw])]
def Mild2 (rd:Rd):Prop:=∀ f x y,rd f x= .ok y→nodes y≤2*nodes x
theorem nodes_zeroT:nodes zeroT=1:=by simp [zeroT,nodes,nodesL]
theorem nodes_dflt (f:FT):nodes f.dflt=1:=by unfold FT.dflt;simp [nodes,nodesL]
theorem nodes_symArr (x:VT):nodes (symArr x)=nodes x+1:=by unfold symArr;simp [nodes,nodesL]
theorem item_nodes2 {rd:Rd} (hm:Mild2 rd) {f:FT} {x y:VT} (h:itemG rd f x= .ok y):nodes y≤2*nodes x∧(x.kind=0→y=f.dflt):=by
 have:=nodes_pos x
 unfold itemG at h
 split at h
 ·split at h
  ·cases h
  ·cases h
   exact ⟨by rw [nodes_dflt];omega,fun _=>rfl⟩
 ·rename_i hk
  refine ⟨?_,fun h=>absurd h hk⟩
  split at h
  ·cases h
   rw [nodes_symArr];omega
  ·split at h
   ·exact hm f x y h
   ·cases h
theorem items_nodes2 {rd:Rd} (hm:Mild2 rd):∀ {fs:List FT} {g:List VT} {i:Nat} {l:List VT},itemsG rd fs g i= .ok l→nodesL l≤2*nodesL g+fs.length
 |[],g,i,l,h=>by cases h;simp [nodesL]
 |f::fs,g,i,l,h=>by
  unfold itemsG at h
  split at h
  ·cases h
  ·rename_i y hy
   split at h
   ·cases h
   ·rename_i r hr
    cases h
    have h2:=items_nodes2 hm hr
    cases g with
    |nil=>
     have hz:nodes y=1:=by rw [(item_nodes2 hm hy).2 rfl,nodes_dflt]
     simp only [List.tail_nil,nodesL,List.length_cons] at h2 ⊢
     omega
    |cons a b=>
     have h1:=(item_nodes2 hm hy).1
     simp only [List.headD_cons,List.tail_cons,nodesL,List.length_cons] at h1 h2 ⊢
     omega
theorem trim_cons_nodes (a:VT) (r:List VT):nodesL (trimT (a::r))≤nodes a+nodesL (trimT r):=by
 rw [trimT]
 split
 ·split<;>simp [nodesL]
 ·rename_i h;rw [h];simp [nodesL]
theorem items_trim {rd:Rd} (hm:Mild2 rd) (hp:Plain rd) (hs:Stay rd):∀ {fs:List FT} {g:List VT} {i:Nat} {l:List VT},(∀ f∈fs,fieldGood f=true)→itemsG rd fs g i= .ok l→nodesL (trimT (List.zipWith (itemP rd) fs l))≤2*nodesL g∧(g=[]→trimT (List.zipWith (itemP rd) fs l)=[])
 |[],g,i,l,_,h=>by cases h;simp [trimT,nodesL]
 |f::fs,g,i,l,hg,h=>by
  unfold itemsG at h
  split at h
  ·cases h
  ·rename_i y hy
   split at h
   ·cases h
   ·rename_i r hr
    cases h
    have h2:=items_trim hm hp hs (fun f' hf=>hg f' (List.mem_cons_of_mem _ hf)) hr
    have h3:=item_again hp hs (hg f List.mem_cons_self) hy
    have h4:=item_nodes2 hm hy
    have hz:(g.headD zeroT).kind=0→itemP rd f y=zeroT:=fun hk=>by rw [h4.2 hk];unfold itemP;rw [if_pos (.inr (eqT_self _))]
    rw [List.zipWith_cons_cons]
    cases g with
    |nil=>
     have h5:=h2.2 rfl
     have e:trimT (itemP rd f y::List.zipWith (itemP rd) fs r)=[]:=by
      rw [trimT,h5,hz rfl];rfl
     exact ⟨by rw [e];simp [nodesL],fun _=>e⟩
    |cons a b=>
     refine ⟨?_,fun h=>by cases h⟩
     have h5:=trim_cons_nodes (itemP rd f y) (List.zipWith (itemP rd) fs r)
     have h6:nodes (itemP rd f y)≤2*nodes a:=by
      have:=nodes_pos a
      have h7:=h4.1
      simp only [List.headD_cons] at h7
      rcases h3.2 with e|e<;>rw [e]
      ·rw [nodes_zeroT];omega
      ·exact h7
     have h7:=h2.1
     simp only [List.tail_cons,nodesL] at h7 ⊢
     omega
theorem norm_nodes2 {rd:Rd} (hm:Mild2 rd) (hp:Plain rd) (hs:Stay rd) {v:VT} {k:Int} {l:List VT} (h:unpackG rd v= .ok (k,l)):nodes (packG rd k l)≤2*nodes v:=by
 obtain ⟨fs,hk,hf,d,x,h3,h4,h5,h6⟩:=unpackG_ok h
 have h1:=(items_trim hm hp hs (fun f hfm=>field_good hf hfm) h6).1
 have h7:=nodes_eq v
 rw [h3] at h7
 have h8:nodesL [d,x]=nodes d+nodes x:=by simp [nodesL]
 have h9:=nodes_eq x
 have h10:=nodes_pos d
 unfold packG
 rw [hf,Option.getD_some,nodes_packV]
 omega
theorem unpack_nodes2 {rd:Rd} (hm:Mild2 rd) {v:VT} {k:Int} {l:List VT} (h:unpackG rd v= .ok (k,l)):nodesL l+13≤2*(nodes v+13):=by
 obtain ⟨fs,hk,hf,d,x,h3,h4,h5,h6⟩:=unpackG_ok h
 have h1:=items_nodes2 hm h6
 have h2:=fieldsT_len hf
 have h7:=nodes_eq v
 rw [h3] at h7
 have h8:nodesL [d,x]=nodes d+nodes x:=by simp [nodesL]
 have h9:=nodes_eq x
 have:=nodes_pos d
 omega
theorem mild2F:∀ n,Mild2 (readF n)
 |0=>fun f x y h=>by
  by_cases ht:f.type=102
  ·have h:readG _ _ f x=_:=h
   unfold readG at h
   rw [if_pos ht] at h
   cases h
  ·rw [readF_plain 0 f x ht] at h
   cases h;omega
 |n+1=>fun f x y h=>by
  by_cases ht:f.type=102
  ·have h:readG _ _ f x=_:=h
   unfold readG at h
   rw [if_pos ht] at h
   split at h
   ·cases h
   ·rename_i a ha
    obtain ⟨k,l⟩:=a
    cases h
    exact norm_nodes2 (mild2F n) (readF_plain n) (stayF n) ha
  ·rw [readF_plain (n+1) f x ht] at h
   cases h;omega
theorem unpack_ready {rd:Rd} (hs:Stay rd) {v:VT} {k:Int} {l:List VT} {fs:List FT} (h:unpackG rd v= .ok (k,l)) (hf:fieldsT k=some fs):l.length=fs.length∧∀ (j:Nat) (f:FT) (y:VT),fs[j]? =some f→l[j]? =some y→y.kind=0∨eqT y f.dflt=true∨wantedT f y=true:=by
 obtain ⟨fs',_,hf',d,x,_,_,_,h6⟩:=unpackG_ok h
 rw [hf'] at hf
 cases hf
 obtain ⟨hl,hi⟩:=itemsG_ok h6
 refine ⟨hl,fun j f y hj hy=>?_⟩
 have:=hi j f y hj hy
 unfold itemG at this
 split at this
 ·split at this
  ·cases this
  ·cases this;exact .inr (.inl (eqT_self _))
 ·rename_i hk
  split at this
  ·rename_i ht
   cases this;exact .inr (.inr (wanted_arr ht.1 _))
  ·split at this
   ·rename_i hw
    exact .inr (.inr (hs f _ y hk hw this).2.1)
   ·cases this
theorem packV_fine (k:Int) (l:List VT):(packV k l).Fine:=⟨by show _≤(24:Int);omega,by show (24:Int)≤_;omega,by show (0:Int)≤0;omega,by show (0:Int)≤_;omega,by show _≤(0:Int);omega,by show (0:Int)≤_;omega,by show empt.size≤_;decide⟩
theorem fieldsC_drop {rd:Rd} {fs:List FT} {l:List VT} {j:Nat} {f:FT} {v:VT} (hf:fs[j]? =some f) (hv:l[j]? =some v):fieldsC rd (fs.drop j) (l.drop j)=if fieldC rd f v≠0 then fieldC rd f v else fieldsC rd (fs.drop (j+1)) (l.drop (j+1)):=by
 obtain ⟨h1,h1'⟩:=List.getElem?_eq_some_iff.1 hf
 obtain ⟨h2,h2'⟩:=List.getElem?_eq_some_iff.1 hv
 rw [List.drop_eq_getElem_cons h1,List.drop_eq_getElem_cons h2,h1',h2']
 rfl
theorem pack_nodes2 {rd:Rd} (hm:Mild2 rd) (k:Int) (l:List VT):nodes (packG rd k l)≤2*nodesL l+3:=by
 unfold packG
 rw [nodes_packV]
 have h1:=nodesL_trim (List.zipWith (itemP rd) ((fieldsT k).getD []) l)
 have h2:=zip_nodes (g:=itemP rd) (c:=2) (by omega) (fs:=(fieldsT k).getD []) (l:=l) fun j f y _ _=>by
  have:=nodes_pos y
  unfold itemP
  split
  ·rw [nodes_zeroT];omega
  ·cases h:rd f y with
   |error e=>show nodes zeroT≤_;rw [nodes_zeroT];omega
   |ok z=>exact hm f y z h
 omega
mutual
theorem wt_nodes:∀ (t:VT) (n:Nat),wt t n≤100000→n+nodes t≤wt t n
 | .mk k m s e l,n,h=>by
   rw [wt] at h ⊢
   have h1:=wts_nodes l _ h
   rw [nodes]
   omega
theorem wts_nodes:∀ (l:List VT) (n:Nat),wts l n≤100000→n+nodesL l≤wts l n
 |[],n,_=>by rw [wts,nodesL];omega
 |t::l,n,h=>by
  rw [wts] at h ⊢
  split at h
  ·rename_i hn
   rw [if_pos hn]
   have h1:=wts_nodes l _ h
   have h2:=wt_nodes t n (by have:=wts_ge l (wt t n);omega)
   rw [nodesL]
   omega
  ·omega
end
theorem small_nodes {l:List VT} (h:¬100000<wts l 0):nodesL l≤100000:=by
 have:=wts_nodes l 0 (by omega)
 omega
mutual
theorem check_at:∀ (t:VT) {d d':Int},checkT t d=0→(depthT t:Int)+d'≤33→checkT t d'=0
 | .mk k m s e l,d,d',h,hd=>by
   rw [checkT_iff] at h ⊢
   rw [depthT] at hd
   refine ⟨alone_mono h.1 (by omega),checks_at l h.2 ?_⟩
   by_cases hl:l=[]
   ·exact .inl hl
   ·exact .inr (by omega)
theorem checks_at:∀ (l:List VT) {d d':Int},checkTs l d=0→l=[]∨(depthTs l:Int)+d'≤33→checkTs l d'=0
 |[],d,d',_,_=>by rw [checkTs]
 |t::r,d,d',h,hd=>by
  have hd:=hd.resolve_left (by simp)
  rw [depthTs] at hd
  rw [checkTs] at h ⊢
  split at h
  ·rename_i h1;exact absurd h h1
  ·rename_i h1
   have h1:checkT t d=0:=by simpa using h1
   rw [if_neg (by simp [check_at t h1 (d':=d') (by omega)])]
   exact checks_at r h (.inr (by omega))
end
mutual
theorem check_depth:∀ (t:VT) {d:Int},checkT t d=0→(depthT t:Int)+d≤33
 | .mk k m s e l,d,h=>by
   have h':=(checkT_iff _ _).1 h
   have h1:=alone_deep h'.1
   have h2:=checks_depth l h'.2 h1
   rw [depthT]
   omega
theorem checks_depth:∀ (l:List VT) {d:Int},checkTs l (d+1)=0→d≤32→(depthTs l:Int)+d≤32
 |[],d,_,hd=>by rw [depthTs];omega
 |t::r,d,h,hd=>by
  have h':=(checkTs_iff _ _).1 h
  have h1:=check_depth t (h' t List.mem_cons_self)
  have h2:=checks_depth r ((checkTs_iff _ _).2 fun x hx=>h' x (List.mem_cons_of_mem _ hx)) hd
  rw [depthTs]
  omega
end
theorem depths_mem:∀ {l:List VT} {x:VT},x∈l→depthT x≤depthTs l
 |t::r,x,h=>by
  rw [depthTs]
  rcases List.mem_cons.1 h with rfl|h
  ·omega
  ·have:=depths_mem h;omega
theorem depths_le:∀ {l:List VT} {n:Nat},(∀ x∈l,depthT x≤n)→depthTs l≤n
 |[],n,_=>by rw [depthTs];omega
 |t::r,n,h=>by
  rw [depthTs]
  have h1:=h t List.mem_cons_self
  have h2:=depths_le (l:=r) (n:=n) fun x hx=>h x (List.mem_cons_of_mem _ hx)
  omega
theorem depth_mem {t x:VT} (h:x∈t.list):depthT x+1≤depthT t:=by
 rw [depthT_eq t]
 have:=depths_mem h
 omega
theorem depth_leaf (t:VT) (h:t.list=[]):depthT t=1:=by rw [depthT_eq,h,depthTs]
theorem depth_packV {k:Int} {l:List VT} {n:Nat} (h:∀ x∈l,depthT x≤n):depthT (packV k l)≤n+2:=by
 rw [depthT_eq]
 show depthTs [_,_]+1≤_
 have h1:=depths_le h
 rw [depthTs,depthTs,depthTs,depth_leaf _ rfl,depthT]
 omega
def Dpt (rd:Rd) (c:Nat):Prop:=∀ f x y d,wantedT f x=true→rd f x= .ok y→checkT x d=0→depthT y≤max (depthT x) c
theorem list_of_sym {x:VT} {d:Int} (h:checkT x d=0) (hk:x.kind=20):x.list=[]:=by
 have hx:=extra_of_alone ((checkT_iff x d).1 h).1
 rw [hk] at hx
 have x3:hasP 20=false:=by decide
 unfold extraT at hx
 rw [x3] at hx
 simp only [Bool.not_false,Bool.true_and,Bool.or_eq_false_iff] at hx
 have:=hx
 refine List.eq_nil_of_length_eq_zero ?_
 simp_all
theorem item_dpt {rd:Rd} {c:Nat} (hc:Dpt rd c) {f:FT} {x y:VT} {d:Int} (h:itemG rd f x= .ok y) (hx:checkT x d=0):depthT y≤max (depthT x) (max 2 c):=by
 unfold itemG at h
 split at h
 ·split at h
  ·cases h
  ·cases h
   rw [depth_leaf f.dflt rfl]
   omega
 ·split at h
  ·rename_i ht
   cases h
   rw [depthT_eq]
   show depthTs [x]+1≤_
   rw [depthTs,depthTs,depth_leaf x (list_of_sym hx ht.2)]
   omega
  ·split at h
   ·rename_i hw
    have:=hc f x y d hw h hx
    omega
   ·cases h
theorem unpack_dpt {rd:Rd} {c:Nat} (hc:Dpt rd c) {v:VT} {d:Int} (hv:checkT v d=0) {k:Int} {fs:List FT} {l:List VT} (h:RecOf rd v k fs l):∀ y∈l,depthT y+2≤max (depthT v) (max 4 (c+2)):=by
 obtain ⟨hk,hf,dd,x,h3,h4,h5,h6⟩:=h
 obtain ⟨hl,hi⟩:=itemsG_ok h6
 have hx:=check_mem hv (x:=x) (by rw [h3];simp)
 have h1:=depth_mem (t:=v) (x:=x) (by rw [h3];simp)
 intro y hy
 obtain ⟨j,hj⟩:=List.getElem?_of_mem hy
 obtain ⟨f,hfj⟩:∃ f,fs[j]? =some f:=⟨_,List.getElem?_eq_getElem (by rw [←hl];exact (List.getElem?_eq_some_iff.1 hj).1)⟩
 have h7:=hi j f y hfj hj
 cases hg:x.list[j]? with
 |none=>
  rw [hg] at h7
  have:=item_dpt hc (d:=1) h7 (check_zero (by omega))
  rw [show ((none:Option VT).getD zeroT)=zeroT from rfl,depth_leaf zeroT rfl] at this
  omega
 |some u=>
  rw [hg] at h7
  have hm:=List.mem_of_getElem? hg
  have:=item_dpt hc h7 (check_mem hx hm)
  have h2:=depth_mem hm
  rw [show ((some u:Option VT).getD zeroT)=u from rfl] at this
  omega
theorem pack_dpt {rd:Rd} {c:Nat} (hp:Plain rd) (hs:Stay rd) (hc:Dpt rd c) {v:VT} {d:Int} (hv:checkT v d=0) {k:Int} {fs:List FT} {l:List VT} (h:RecOf rd v k fs l):depthT (packG rd k l)≤max (depthT v) (max 4 (c+2)):=by
 have h1:=unpack_dpt hc hv h
 unfold packG
 rw [h.fields]
 have:=depth_packV (k:=k) (l:=trimT (List.zipWith (itemP rd) fs l)) (n:=max (depthT v) (max 4 (c+2))-2) fun x hx=>by
  rcases packed_items hp hs h (trim_mem hx) with rfl|h
  ·rw [depth_leaf zeroT rfl];omega
  ·have:=h1 x h;omega
 rw [Option.getD_some]
 omega
theorem dptF:∀ n,Dpt (readF n) (2*n+2)
 |0=>fun f x y d hw h hx=>by
  by_cases ht:f.type=102
  ·have h:readG _ _ f x=_:=h
   unfold readG at h
   rw [if_pos ht] at h
   cases h
  ·rw [readF_plain 0 f x ht] at h
   cases h
   omega
 |n+1=>fun f x y d hw h hx=>by
  by_cases ht:f.type=102
  ·have h:readG _ _ f x=_:=h
   unfold readG at h
   rw [if_pos ht] at h
   split at h
   ·cases h
   ·rename_i a ha
    obtain ⟨k,l⟩:=a
    cases h
    obtain ⟨fs,hr⟩:=unpackG_ok ha
    have:=pack_dpt (readF_plain n) (stayF n) (dptF n) hx hr
    have this:depthT (packF n k l)≤_:=this
    show depthT (packF n k l)≤_
    omega
  ·rw [readF_plain (n+1) f x ht] at h
   cases h
   omega
theorem fieldsC_of {rd:Rd}:∀ {fs:List FT} {l:List VT},(∀ (j:Nat) (f:FT) (v:VT),fs[j]? =some f→l[j]? =some v→fieldC rd f v=0)→fieldsC rd fs l=0
 |[],[],_=>rfl
 |[],_::_,_=>rfl
 |_::_,[],_=>rfl
 |f::fs,v::l,h=>by
  unfold fieldsC
  rw [if_neg (by simp [h 0 f v rfl rfl])]
  exact fieldsC_of fun j f v hf hv=>h (j+1) f v hf hv
theorem item_fieldC {rd:Rd} (hp:Plain rd) (hs:Stay rd) {f:FT} (hg:fieldGood f=true) {x y:VT} (h:itemG rd f x= .ok y) (hd:y=f.dflt→y.kind≠0→wantedT f y=true) (hy:checkT y 1=0):fieldC rd f y=0:=by
 unfold fieldC
 unfold itemG at h
 split at h
 ·split at h
  ·cases h
  ·rename_i hm
   cases h
   rw [if_neg (fun e=>hm e.2)]
   by_cases hk:f.dflt.kind=0
   ·rw [if_pos (.inr hk),hy]
   ·rw [if_neg (by simp [hy,hk]),if_neg (by simp [hd rfl hk])]
    by_cases ht:f.type=102
    ·exact absurd (by rw [(good_comp hg ht).1];rfl) hk
    ·rw [hp f _ ht]
 ·split at h
  ·rename_i ht
   cases h
   rw [if_neg (fun e=>by cases e.1),if_neg,if_neg (by simp [wanted_arr ht.1 x]),hp f _ (by omega)]
   rintro (e|e)
   ·exact e hy
   ·cases e
  ·split at h
   ·rename_i hx hw
    obtain ⟨h1,h2,h3⟩:=hs f x y (by assumption) hw h
    rw [if_neg (fun e=>h3 e.1),if_neg (by simp [hy,h3]),if_neg (by simp [h2]),h1]
   ·cases h
theorem dflt_wanted {k:Int} {fs:List FT} (h:fieldsT k=some fs) {f:FT} (hf:f∈fs) (hk:f.dflt.kind≠0):wantedT f f.dflt=true:=by
 obtain ⟨e,he,_,rfl⟩:=fieldsT_mem h
 have ht:∀ e∈tab,∀ f∈e.2,f.dk≠0→f.type≠102∧wantedT f (.mk f.dk 0 empt 0 [])=true:=by decide
 obtain ⟨h1,h2⟩:=ht e he f hf hk
 unfold wantedT at h2 ⊢
 rw [if_neg h1] at h2 ⊢
 exact h2
theorem back_rec {n:Nat} (hn:n≤10) {v:VT} (hv:checkT v 1=0) {k:Int} {l:List VT} (h:unpackF n v= .ok (k,l)):
 recC (readF n) (packF n) k l=0∧checkT (packF n k l) 1=0∧unpackF n (packF n k l)= .ok (k,l):=by
 obtain ⟨fs,hr⟩:=unpackG_ok h
 have hc:=pack_chk (readF_plain n) (stayF n) (chkF n) hv h
 have h1:=pack_dpt (readF_plain n) (stayF n) (dptF n) hv hr
 have h2:=check_depth v hv
 have h3:depthT (packF n k l)≤32:=by
  have h1:depthT (packF n k l)≤_:=h1
  omega
 refine ⟨?_,check_at _ hc (by show ((depthT (packF n k l):Nat):Int)+1≤33;omega),pack_again (readF_plain n) (stayF n) h⟩
 have hrr:=rec_read hv hr
 have hf:=hr.fields
 obtain ⟨_,_,dd,x,h4,h5,h6,h7⟩:=hr
 obtain ⟨hl,hi⟩:=itemsG_ok h7
 unfold recC
 rw [hf]
 show (if l.length≠fs.length then _ else _)=_
 rw [if_neg (by simp [hl]),if_neg,if_neg (by omega)]
 rw [fieldsC_of fun j f y hj hy=>?_]
 ·simp
 ·refine item_fieldC (readF_plain n) (stayF n) (field_good hf (List.mem_of_getElem? hj)) (hi j f y hj hy) ?_ (hrr j f y hj hy).1
  rintro rfl hk
  exact dflt_wanted hf (List.mem_of_getElem? hj) hk
def backI (rd:Rd) (f:FT) (v:VT):VT:=if v.kind=0∨eqT v f.dflt=true then f.dflt else okV (rd f v)
theorem item_back {rd:Rd} (hp:Plain rd) (hs:Stay rd) {f:FT} (hg:fieldGood f=true) {v:VT} (hm:v.kind=0→f.must=false) (hv:v.kind≠0→wantedT f v=true∧∃ y,rd f v= .ok y):
 itemG rd f (itemP rd f v)= .ok (backI rd f v)∧itemP rd f (backI rd f v)=itemP rd f v:=by
 unfold backI
 by_cases hc:v.kind=0∨eqT v f.dflt=true
 ·have e:itemP rd f v=zeroT:=if_pos hc
  have e2:itemP rd f f.dflt=zeroT:=if_pos (.inr (eqT_self _))
  rw [if_pos hc,e,e2]
  refine ⟨?_,rfl⟩
  unfold itemG
  rw [if_pos (show zeroT.kind=0 from rfl),if_neg]
  intro hmt
  rcases hc with hc|hc
  ·rw [hm hc] at hmt;cases hmt
  ·have ey:=(eqT_iff _ _).1 hc
   by_cases hk:v.kind=0
   ·rw [hm hk] at hmt;cases hmt
   ·rw [good_must hg hmt] at ey
    exact hk (by rw [ey];rfl)
 ·have hk:v.kind≠0:=fun h=>hc (.inl h)
  obtain ⟨hw,y,hy⟩:=hv hk
  obtain ⟨h1,h2,h3⟩:=hs f v y hk hw hy
  have e:itemP rd f v=y:=by unfold itemP;rw [if_neg hc,hy];rfl
  rw [if_neg hc,e,hy]
  show itemG rd f y= .ok y∧itemP rd f y=y
  refine ⟨?_,?_⟩
  ·unfold itemG
   rw [if_neg h3,if_neg (by rintro ⟨ht,h⟩;have:=wanted_sym ht h2;omega),if_pos h2,h1]
  ·unfold itemP
   rw [if_neg,h1]
   ·rfl
   ·rintro (h|h)
    ·exact h3 h
    ·by_cases ht:f.type=102
     ·have:=eqT_kind h
      rw [(good_comp hg ht).1] at this
      exact h3 this
     ·rw [hp f v ht] at hy
      cases hy
      exact hc (.inr h)
theorem back_val {n:Nat} (hn:n≤10) {k:Int} {l:List VT} (h:recC (readF n) (packF n) k l=0):
 checkT (packF n k l) 1=0∧∃ l',unpackF n (packF n k l)= .ok (k,l')∧l'.length=l.length∧recC (readF n) (packF n) k l'=0∧packF n k l'=packF n k l:=by
 unfold recC at h
 split at h
 ·cases h
 ·rename_i fs hf
  split at h
  ·cases h
  ·rename_i hl
   have hl:l.length=fs.length:=Decidable.not_not.1 hl
   split at h
   ·rename_i h1;exact absurd h h1
   ·rename_i hc
    have hc:fieldsC (readF n) fs l=0:=Decidable.not_not.1 hc
    split at h
    ·cases h
    ·rename_i hd
     have hrd:=fields_ready hc
     have hmust:∀ (j:Nat) (f:FT) (v:VT),fs[j]? =some f→l[j]? =some v→v.kind=0→f.must=false:=fun j f v hj hv hk=>by
      have h2:=fieldsC_get hc j f v hj hv
      unfold fieldC at h2
      split at h2
      ·cases h2
      ·rename_i h3
       cases hm:f.must
       ·rfl
       ·exact absurd ⟨hk,hm⟩ h3
     have hit:∀ (j:Nat) (f:FT) (v:VT),fs[j]? =some f→l[j]? =some v→_:=fun j f v hj hv=>
      item_back (readF_plain n) (stayF n) (field_good hf (List.mem_of_getElem? hj)) (hmust j f v hj hv) (hrd j f v hj hv).2
     have hpk:packF n k l=packV k (trimT (List.zipWith (itemP (readF n)) fs l)):=by
      show packG (readF n) k l=_
      unfold packG
      rw [hf];rfl
     have hchk:checkT (packF n k l) 1=0:=by
      rw [hpk] at hd ⊢
      refine check_packV (by omega) fun x hx=>?_
      have hx2:depthT x+2≤depthT (packV k (trimT (List.zipWith (itemP (readF n)) fs l))):=by
       have h1:=depth_mem (t:= .mk 21 0 empt 0 (trimT (List.zipWith (itemP (readF n)) fs l))) hx
       have h2:=depth_mem (t:=packV k (trimT (List.zipWith (itemP (readF n)) fs l))) (x:= .mk 21 0 empt 0 (trimT (List.zipWith (itemP (readF n)) fs l))) (by unfold packV;simp [VT.list])
       omega
      have h0:checkT x 0=0:=by
       obtain ⟨j,hj⟩:=List.getElem?_of_mem (trim_mem hx)
       have hlt:=(List.getElem?_eq_some_iff.1 hj).1
       rw [List.length_zipWith] at hlt
       obtain ⟨f,hfj⟩:∃ f,fs[j]? =some f:=⟨_,List.getElem?_eq_getElem (by omega)⟩
       obtain ⟨v,hvj⟩:∃ v,l[j]? =some v:=⟨_,List.getElem?_eq_getElem (by omega)⟩
       rw [zip_get hfj hvj] at hj
       cases hj
       obtain ⟨h3,h4⟩:=hrd j f v hfj hvj
       unfold itemP
       split
       ·exact check_zero (by omega)
       ·rename_i hne
        obtain ⟨hw,y,hy⟩:=h4 fun e=>hne (.inl e)
        rw [hy]
        exact chkF n f v y 1 hw hy h3
      exact check_at x h0 (by omega)
     have hun:unpackF n (packF n k l)= .ok (k,List.zipWith (backI (readF n)) fs l):=by
      rw [hpk]
      refine unpackG_of (fs:=fs) ⟨kindOf_packV hf _,hf,_,_,rfl,rfl,?_,itemsG_of ?_ fun j f y hj hy=>?_⟩
      ·refine Nat.le_trans (trim_len _) ?_
       rw [List.length_zipWith,hl,Nat.min_self];exact Nat.le_refl _
      ·rw [List.length_zipWith,hl,Nat.min_self]
      ·obtain ⟨v,hvj⟩:∃ v,l[j]? =some v:=⟨_,List.getElem?_eq_getElem (by rw [hl];exact (List.getElem?_eq_some_iff.1 hj).1)⟩
       rw [zip_get hj hvj] at hy
       cases hy
       have hit:=(hit j f v hj hvj).1
       have hz:(List.zipWith (itemP (readF n)) fs l)[j]? =some (itemP (readF n) f v):=zip_get hj hvj
       rw [←hit]
       show itemG (readF n) f (((trimT (List.zipWith (itemP (readF n)) fs l))[j]?).getD zeroT)=_
       rcases trim_get (List.zipWith (itemP (readF n)) fs l) j with e|⟨e1,e2⟩
       ·rw [e,hz];rfl
       ·rw [hz] at e2
        rw [e1]
        exact itemG_kind0 (readF n) f rfl e2
     refine ⟨hchk,_,hun,?_,(back_rec hn hchk hun).1,?_⟩
     ·rw [List.length_zipWith,hl,Nat.min_self]
     ·rw [hpk]
      show packG (readF n) k _=_
      unfold packG
      rw [hf,Option.getD_some]
      congr 2
      refine List.ext_getElem? fun j=>?_
      cases hj:fs[j]? with
      |none=>simp only [List.getElem?_zipWith,hj]
      |some f=>
       obtain ⟨v,hvj⟩:∃ v,l[j]? =some v:=⟨_,List.getElem?_eq_getElem (by rw [hl];exact (List.getElem?_eq_some_iff.1 hj).1)⟩
       rw [zip_get hj (zip_get hj hvj),zip_get hj hvj,(hit j f v hj hvj).2]
theorem trim_last:∀ (l:List VT) {x:VT},(trimT l)[(trimT l).length-1]? =some x→x.kind≠0
 |[],x,h=>by simp [trimT] at h
 |a::r,x,h=>by
  have ih:=fun {x}=>trim_last r (x:=x)
  unfold trimT at h
  split at h
  ·split at h
   ·simp at h
   ·rename_i hk
    simp at h
    rw [←h];exact hk
  ·rename_i b s hb
   rw [hb] at ih
   simp only [List.length_cons,Nat.add_sub_cancel] at h ih
   rw [List.getElem?_cons_succ] at h
   exact ih h
theorem trim_was:∀ {l:List VT} {i:Nat} {x:VT},(trimT l)[i]? =some x→l[i]? =some x
 |[],i,x,h=>by simp [trimT] at h
 |a::r,i,x,h=>by
  have ih:=fun {i x}=>trim_was (l:=r) (i:=i) (x:=x)
  unfold trimT at h
  split at h
  ·split at h
   ·simp at h
   ·cases i with
    |zero=>exact h
    |succ i=>simp at h
  ·rename_i b s hb
   rw [hb] at ih
   cases i with
   |zero=>exact h
   |succ i=>rw [List.getElem?_cons_succ] at h ⊢;exact ih h
theorem pack_list {n:Nat} {k:Int} {fs:List FT} (hf:fieldsT k=some fs) (l:List VT):packF n k l=packV k (trimT (List.zipWith (itemP (readF n)) fs l)):=by
 show packG (readF n) k l=_
 unfold packG
 rw [hf];rfl
theorem rec_fields {n:Nat} {k:Int} {l:List VT} (h:recC (readF n) (packF n) k l=0):∃ fs,fieldsT k=some fs∧l.length=fs.length∧fieldsC (readF n) fs l=0:=by
 unfold recC at h
 split at h
 ·cases h
 ·rename_i fs hf
  refine ⟨fs,hf,?_⟩
  split at h
  ·cases h
  ·rename_i hl
   refine ⟨Decidable.not_not.1 hl,?_⟩
   split at h
   ·rename_i h1;exact absurd h h1
   ·rename_i h1;exact Decidable.not_not.1 h1
theorem item_no_dflt {n:Nat} {k:Int} {fs:List FT} {l:List VT} (hf:fieldsT k=some fs) (hc:fieldsC (readF n) fs l=0) {i:Nat} {f:FT} {x:VT} (hfi:fs[i]? =some f) (hx:(List.zipWith (itemP (readF n)) fs l)[i]? =some x) (he:eqT x f.dflt=true):x.kind=0:=by
 have hlt:=(List.getElem?_eq_some_iff.1 hx).1
 rw [List.length_zipWith] at hlt
 obtain ⟨v,hv⟩:∃ v,l[i]? =some v:=⟨_,List.getElem?_eq_getElem (by omega)⟩
 rw [zip_get hfi hv] at hx
 cases hx
 have hg:=field_good hf (List.mem_of_getElem? hfi)
 unfold itemP at he ⊢
 split at he
 ·rename_i h1
  rw [if_pos h1];rfl
 ·rename_i h1
  rw [if_neg h1]
  have hk:v.kind≠0:=fun h=>h1 (.inl h)
  obtain ⟨hw,y,hy⟩:=(fields_ready hc i f v hfi hv).2 hk
  rw [hy] at he ⊢
  have he:eqT y f.dflt=true:=he
  show y.kind=0
  by_cases ht:f.type=102
  ·have:=eqT_kind he
   rw [(good_comp hg ht).1] at this
   exact this
  ·rw [readF_plain n f v ht] at hy
   cases hy
   exact absurd (.inr he) h1
theorem pack_short {n:Nat} {k:Int} {l:List VT} (h:recC (readF n) (packF n) k l=0):
 ∃ fs g,fieldsT k=some fs∧packF n k l=packV k g∧g.length≤fs.length∧(∀ x,g[g.length-1]? =some x→x.kind≠0)∧(∀ (i:Nat) (f:FT) (x:VT),fs[i]? =some f→g[i]? =some x→eqT x f.dflt=true→x.kind=0):=by
 obtain ⟨fs,hf,hl,hc⟩:=rec_fields h
 refine ⟨fs,_,hf,pack_list hf l,?_,fun x hx=>trim_last _ hx,fun i f x hi hx he=>item_no_dflt hf hc hi (trim_was hx) he⟩
 refine Nat.le_trans (trim_len _) ?_
 rw [List.length_zipWith,hl,Nat.min_self];exact Nat.le_refl _
def longI (r:Bool) (f:FT) (x:VT):VT:=if r=true∧x.kind=0 then f.dflt else x
def longL (raw:Nat→Bool) (fs:List FT) (g:List VT):List VT:=fs.mapIdx fun i f=>longI (raw i) f ((g[i]?).getD zeroT)
def longV (k:Int) (L:List VT):VT:= .mk 24 0 empt 0 [.mk 20 0 (nameB k) 0 [],.mk 21 0 empt 0 L]
theorem tab_sym:∀ e∈tab,kindD (.mk 20 0 (nameB e.1) 0 [])=some (e.1:Int):=by
 have h1:∀ e∈tab,nameL e.1≠[]∧∀ j∈List.range 199,j+1<e.1→nameL ((j+1:Nat):Int)≠nameL e.1:=by decide+kernel
 intro e he
 obtain ⟨h2,h3⟩:=h1 e he
 have h4:(e.1:Int)≤120:=by
  by_cases h:(e.1:Int)≤120
  ·exact h
  ·exact absurd (name_out (.inr (by omega))) h2
 have h5:(16:Int)≤e.1:=by
  by_cases h:(16:Int)≤e.1
  ·exact h
  ·exact absurd (name_out (.inl (by omega))) h2
 unfold kindD
 refine findR_some (by omega) (by omega) ((hitR_iff _ _).2 ⟨h2,.inr ⟨rfl,rfl,rfl,rfl,rfl⟩⟩) fun i hi1 hi2=>hitR_false ?_
 rintro ⟨h6,h7|h7⟩
 ·cases h7.1
 ·have h8:nameB e.1=nameB i:=h7.2.2.1
  have h9:nameL e.1=nameL i:=by rw [←nameB_eq h8];rfl
  obtain ⟨j,rfl⟩:∃ j:Nat,i=((j+1:Nat):Int):=⟨(i-1).toNat,by omega⟩
  exact h3 j (List.mem_range.2 (by omega)) (by omega) h9.symm
theorem tab_symChk:∀ e∈tab,aloneT (.mk 20 0 (nameB e.1) 0 []) 1=0:=by decide+kernel
theorem kindOf_longV {k:Int} {fs:List FT} (h:fieldsT k=some fs) (L:List VT):kindOf (longV k L)=some k:=by
 obtain ⟨e,he,rfl,_⟩:=fieldsT_mem h
 unfold kindOf longV
 rw [if_pos ⟨rfl,rfl⟩]
 exact tab_sym e he
theorem check_longV {k:Int} {fs:List FT} (hf:fieldsT k=some fs) {l:List VT} {d:Int} (hd:d+1≤32) (h:∀ x∈l,checkT x (d+2)=0):checkT (longV k l) d=0:=by
 obtain ⟨e,he,rfl,_⟩:=fieldsT_mem hf
 have h0:=(checkT_iff _ _).1 (check_packV (k:=e.1) hd h)
 rw [checkT_iff]
 refine ⟨alone_mono (d:=1) rfl (by omega),?_⟩
 have h2:=(checkTs_iff _ _).1 h0.2
 show checkTs [_,_] _=0
 rw [checkTs_iff]
 intro y hy
 simp only [List.mem_cons,List.not_mem_nil,or_false] at hy
 rcases hy with rfl|rfl
 ·rw [checkT_iff]
  exact ⟨alone_mono (tab_symChk e he) (by omega),by show checkTs [] _=0;rw [checkTs]⟩
 ·exact h2 _ (.tail _ (.head _))
theorem item_long {n:Nat} {k:Int} {fs:List FT} (hf:fieldsT k=some fs) {f:FT} (hm:f∈fs) {x y:VT} (h:itemG (readF n) f x= .ok y) (r:Bool):itemG (readF n) f (longI r f x)= .ok y:=by
 unfold longI
 split
 ·rename_i hr
  have hg:=field_good hf hm
  unfold itemG at h
  rw [if_pos hr.2] at h
  split at h
  ·cases h
  ·rename_i hmu
   cases h
   unfold itemG
   by_cases hk:f.dflt.kind=0
   ·rw [if_pos hk,if_neg hmu]
   ·rw [if_neg hk,if_neg (fun e=>hk (good_sym hg e.1)),if_pos (dflt_wanted hf hm hk)]
    exact readF_plain n f _ fun ht=>hk (by rw [(good_comp hg ht).1];rfl)
 ·exact h
theorem longL_len (raw:Nat→Bool) (fs:List FT) (g:List VT):(longL raw fs g).length=fs.length:=by unfold longL;rw [List.length_mapIdx]
theorem longL_get (raw:Nat→Bool) (fs:List FT) (g:List VT) (i:Nat):(longL raw fs g)[i]? =(fs[i]?).map fun f=>longI (raw i) f ((g[i]?).getD zeroT):=by unfold longL;rw [List.getElem?_mapIdx]
theorem longL_chk {k:Int} {fs:List FT} (hf:fieldsT k=some fs) {g:List VT} (hg:checkT (packV k g) 1=0) (raw:Nat→Bool):∀ x∈longL raw fs g,checkT x 3=0:=by
 intro x hx
 obtain ⟨j,hj⟩:=List.getElem?_of_mem hx
 rw [longL_get] at hj
 cases hfj:fs[j]? with
 |none=>rw [hfj] at hj;cases hj
 |some f=>
  rw [hfj] at hj
  cases hj
  unfold longI
  split
  ·exact check_dflt hf (List.mem_of_getElem? hfj) (by decide)
  ·have h1:checkT (.mk 21 0 empt 0 g) 2=0:=check_mem hg (x:= .mk 21 0 empt 0 g) (.tail _ (.head _))
   cases hgj:g[j]? with
   |none=>exact check_zero (by decide)
   |some u=>exact check_mem h1 (List.mem_of_getElem? hgj)
theorem long_same {n:Nat} {k:Int} {fs:List FT} (hf:fieldsT k=some fs) {g l:List VT} (hu:unpackF n (packV k g)= .ok (k,l)) (raw:Nat→Bool) {L:List VT} (hL:L=longL raw fs g∨L=trimT (longL raw fs g)):unpackF n (longV k L)= .ok (k,l):=by
 obtain ⟨fs',h1,h2,d,x,h3,h4,h5,h6⟩:=unpackG_ok hu
 rw [hf] at h2
 cases h2
 obtain ⟨rfl,rfl⟩:d= .mk 5 k empt 0 []∧x= .mk 21 0 empt 0 g:=by
  have h3:[_,_]=[d,x]:=h3
  simp only [List.cons.injEq,and_true] at h3
  exact ⟨h3.1.symm,h3.2.symm⟩
 obtain ⟨hl,hi⟩:=itemsG_ok h6
 refine unpackG_of (fs:=fs) ⟨kindOf_longV hf _,hf,_,_,rfl,rfl,?_,itemsG_of hl fun j f y hj hy=>?_⟩
 ·show L.length≤_
  rcases hL with rfl|rfl
  ·rw [longL_len];exact Nat.le_refl _
  ·exact Nat.le_trans (trim_len _) (by rw [longL_len];exact Nat.le_refl _)
 ·have h7:=item_long hf (List.mem_of_getElem? hj) (hi j f y hj hy) (raw j)
  have e:((longL raw fs g)[j]?).getD zeroT=longI (raw j) f ((g[j]?).getD zeroT):=by rw [longL_get,hj];rfl
  show itemG (readF n) f ((L[j]?).getD zeroT)=_
  rcases hL with rfl|rfl
  ·rw [e];exact h7
  ·rcases trim_get (longL raw fs g) j with e1|⟨e1,e2⟩
   ·rw [e1,e];exact h7
   ·rw [e] at e2
    rw [e1,←h7]
    exact itemG_kind0 (readF n) f rfl e2
theorem long_many {n:Nat} {k:Int} {fs:List FT} (hf:fieldsT k=some fs) {L:List VT} (hL:L.length=fs.length) (x:VT):unpackF n (longV k (L++[x]))= .error (fs.length,71):=by
 show unpackG (readF n) _=_
 unfold unpackG
 rw [kindOf_longV hf]
 simp only [hf]
 show (if (21:Int)≠21 then _ else if fs.length<(L++[x]).length then _ else _)=_
 rw [if_neg (by decide),if_pos (by rw [List.length_append,hL];exact Nat.lt_succ_self _)]
theorem pack_forms {n:Nat} (hn:n≤10) {k:Int} {l:List VT} (h:recC (readF n) (packF n) k l=0):
 ∃ fs g l',fieldsT k=some fs∧packF n k l=packV k g∧g.length≤fs.length∧checkT (packV k g) 1=0∧unpackF n (packV k g)= .ok (k,l')∧l'.length=l.length∧
   (∀ raw L,L=longL raw fs g∨L=trimT (longL raw fs g)→checkT (longV k L) 1=0∧unpackF n (longV k L)= .ok (k,l'))∧
   (∀ raw,checkT (longV k (longL raw fs g++[zeroT])) 1=0∧unpackF n (longV k (longL raw fs g++[zeroT]))= .error (fs.length,71)):=by
 obtain ⟨fs,g,hf,hp,hg,_,_⟩:=pack_short h
 obtain ⟨hc,l',hu,hl,_,_⟩:=back_val hn h
 rw [hp] at hc hu
 refine ⟨fs,g,l',hf,hp,hg,hc,hu,hl,fun raw L hL=>⟨check_longV hf (by decide) fun x hx=>?_,long_same hf hu raw hL⟩,fun raw=>⟨check_longV hf (by decide) fun x hx=>?_,long_many hf (longL_len _ _ _) _⟩⟩
 ·have:=longL_chk hf hc raw x
  rcases hL with rfl|rfl
  ·exact this hx
  ·exact this (trim_mem hx)
 ·rcases List.mem_append.1 hx with hx|hx
  ·exact longL_chk hf hc raw x hx
  ·rw [List.mem_singleton.1 hx];exact check_zero (by decide)
def LAtP (P:Nat→Prop) (w:World):Nat→Value→List VT→Prop
 |0,_,_=>False
 |n+1,v,ts=>(ts=[]∧∃ p c,v= .slice p 0 c)∨
   ∃ b off c,v= .slice (some ⟨b,off,none⟩) ts.length c∧P b∧b<w.heap.size∧ts.length≤maxLen∧∀ i t,ts[i]? =some t→t.Fine∧∃ lv,At5 w b (off+i*5) t lv∧LAtP P w n lv t.list
section
variable {w w':World} {P Q:Nat→Prop}
theorem LAtP.heap (hz:w.heap.size≤w'.heap.size) (he:∀ b,P b→b<w.heap.size→w'.heap[b]? =w.heap[b]?):∀ {n:Nat} {v:Value} {ts:List VT},LAtP P w n v ts→LAtP P w' n v ts
 |0,_,_,h=>h
 |n+1,v,ts,h=>by
  rcases h with h|⟨b,off,c,h1,h2,h3,h4,h5⟩
  ·exact .inl h
  ·exact .inr ⟨b,off,c,h1,h2,by omega,h4,fun i t ht=>let ⟨hf,lv,ha,hl⟩:=h5 i t ht;⟨hf,lv,ha.heap (he b h2 h3),LAtP.heap hz he hl⟩⟩
theorem LAtP.weak (hPQ:∀ b,P b→b<w.heap.size→Q b):∀ {n:Nat} {v:Value} {ts:List VT},LAtP P w n v ts→LAtP Q w n v ts
 |0,_,_,h=>h
 |n+1,v,ts,h=>by
  rcases h with h|⟨b,off,c,h1,h2,h3,h4,h5⟩
  ·exact .inl h
  ·exact .inr ⟨b,off,c,h1,hPQ b h2 h3,h3,h4,fun i t ht=>let ⟨hf,lv,ha,hl⟩:=h5 i t ht;⟨hf,lv,ha,LAtP.weak hPQ hl⟩⟩
theorem LAtP.mono:∀ {n m:Nat} {v:Value} {ts:List VT},n≤m→LAtP P w n v ts→LAtP P w m v ts
 |0,_,_,_,_,h=>h.elim
 |n+1,0,_,_,hn,_=>by omega
 |n+1,m+1,v,ts,hn,h=>by
  rcases h with h|⟨b,off,c,h1,h2,h3,h4,h5⟩
  ·exact .inl h
  ·exact .inr ⟨b,off,c,h1,h2,h3,h4,fun i t ht=>let ⟨hf,lv,ha,hl⟩:=h5 i t ht;⟨hf,lv,ha,LAtP.mono (by omega) hl⟩⟩
theorem LAtP.lat:∀ {n:Nat} {v:Value} {ts:List VT},LAtP P w n v ts→LAt w.heap.size w n v ts
 |0,_,_,h=>h
 |n+1,v,ts,h=>by
  rcases h with h|⟨b,off,c,h1,h2,h3,h4,h5⟩
  ·exact .inl h
  ·exact .inr ⟨b,off,c,h1,h3,h4,fun i t ht=>let ⟨hf,lv,ha,hl⟩:=h5 i t ht;⟨hf,lv,ha,LAtP.lat hl⟩⟩
theorem LAt.latP {B:Nat} (hB:B≤w.heap.size):∀ {n:Nat} {v:Value} {ts:List VT},LAt B w n v ts→LAtP (· <B) w n v ts
 |0,_,_,h=>h
 |n+1,v,ts,h=>by
  rcases h with h|⟨b,off,c,h1,h2,h3,h4⟩
  ·exact .inl h
  ·exact .inr ⟨b,off,c,h1,h2,by omega,h3,fun i t ht=>let ⟨hf,lv,ha,hl⟩:=h4 i t ht;⟨hf,lv,ha,LAt.latP hB hl⟩⟩
theorem LAtP.slice {n:Nat} {v:Value} {ts:List VT} (h:LAtP P w n v ts):∃ p c,v= .slice p ts.length c:=h.lat.slice
theorem LAtP.below {n:Nat} {v:Value} {ts:List VT} (h:LAtP P w n v ts) (hb:Below w.heap.size w w'):LAtP P w' n v ts:=h.heap hb.size fun b _ hlt=>hb.block b hlt
theorem LAtP.nil (n:Nat) (p:Option Addr) (c:Nat):LAtP P w (n+1) (.slice p 0 c) []:= .inl ⟨rfl,p,c,rfl⟩
theorem lat_level:∀ {items:List (VT×Value)},(∀ x∈items,∃ M,LAtP P w M x.2 x.1.list)→∃ M,∀ x∈items,LAtP P w M x.2 x.1.list
 |[],_=>⟨0,fun x hx=>by cases hx⟩
 |a::r,h=>by
  obtain ⟨M,hM⟩:=h a List.mem_cons_self
  obtain ⟨K,hK⟩:=lat_level (items:=r) fun x hx=>h x (List.mem_cons_of_mem _ hx)
  refine ⟨max M K,fun x hx=>?_⟩
  rcases List.mem_cons.1 hx with rfl|hx
  ·exact hM.mono (by omega)
  ·exact (hK x hx).mono (by omega)
end
structure PRL (B:Nat) (T:TypeId) (P:Nat→Prop) (W:World) (items:List (VT×Value)) (v:Value) (w:World):Prop where
 below:Below B W w
 Bw:B≤w.heap.size
 row:w.ownsRow B T 5 v items.length (cellsL items)
 own:∀ x∈items,x.1.Fine∧∃ M,LAtP (fun b=>P b∧v.ownBlock≠some b) w M x.2 x.1.list
section
variable {B:Nat} {T:TypeId} {P:Nat→Prop} {W w w':World} {items:List (VT×Value)} {v v':Value}
theorem PRL.start (w:World):PRL w.heap.size T P w [] (.slice none 0 0) w:=
 ⟨Below.refl _ _,Nat.le_refl _,World.ownsRow_nil _ _ _ _,(fun x hx=>by cases hx)⟩
theorem PRL.rowBlk (h:PRL B T P W items v w) {b:Nat} (hb:v.ownBlock=some b):B≤b∧b<w.heap.size:=World.ownsRow.lt h.row b hb
theorem PRL.keep (h:PRL B T P W items v w) (hb:Below w.heap.size w w'):PRL B T P W items v w':=by
 have hg:w.grownBy w' none:=⟨hb.os,hb.tape,hb.output,hb.size,fun k hk _=>hb.block k hk⟩
 refine ⟨h.below.trans (hb.mono h.Bw),Nat.le_trans h.Bw hb.size,World.ownsRow.kept h.row hg ?_,fun x hx=>⟨(h.own x hx).1,let ⟨M,hM⟩:=(h.own x hx).2;⟨M,hM.below hb⟩⟩⟩
 cases v.ownBlock with
 |none=>exact .inl rfl
 |some b=>exact .inr (fun e=>by cases e)
theorem PRL.form (h:PRL B T P W items v w):∃ p c,v= .slice p items.length c:=by
 rcases h.row.2 with ⟨rfl,h0⟩|⟨g,c,_,rfl,_⟩
 ·exact ⟨none,0,by rw [h0]⟩
 ·exact ⟨_,c,rfl⟩
theorem PRL.away (h:PRL B T P W items v w) {P0:Nat→Prop} {lo n:Nat} {lv:Value} {ts:List VT} (hl:LAtP P0 w n lv ts) (hP:∀ b,P0 b→b<w.heap.size→P b∧(b<B∨lo≤b)) (hv:∀ b,v.ownBlock=some b→b<lo):LAtP (fun b=>P b∧v.ownBlock≠some b) w n lv ts:=
 hl.weak fun b hb hlt=>⟨(hP b hb hlt).1,fun e=>by have:=hv b e;have:=(h.rowBlk e).1;rcases (hP b hb hlt).2 with h|h<;>omega⟩
theorem PRL.push (h:PRL B T P W items v w) {x:VT×Value} {n:Nat} (hf:x.1.Fine) (ho:LAtP (fun b=>P b∧v.ownBlock≠some b) w n x.2 x.1.list)
 (hr:w'.ownsRow B T 5 v' (items.length+1) (cellsL items++x.1.cells x.2)) (hg:w.grownBy w' v.ownBlock) (hat:v'.ownBlock=v.ownBlock∨v'.ownBlock=some w.heap.size):PRL B T P W (items++[x]) v' w':=by
 have hx:cellsL (items++[x])=cellsL items++x.1.cells x.2:=by simp [cellsL]
 have hk:∀ {n:Nat} {lv:Value} {ts:List VT},LAtP (fun b=>P b∧v.ownBlock≠some b) w n lv ts→LAtP (fun b=>P b∧v'.ownBlock≠some b) w' n lv ts:=fun ho=>by
  have h1:=ho.weak (Q:=fun b=>(P b∧v.ownBlock≠some b)∧v'.ownBlock≠some b) fun b hb hlt=>⟨hb,by
   rcases hat with e|e
   ·rw [e];exact hb.2
   ·rw [e];intro e2;cases e2;omega⟩
  have h2:=h1.heap (w':=w') hg.size fun b hb hlt=>hg.block b hlt (fun e=>hb.1.2 e.symm)
  exact h2.weak fun b hb _=>⟨hb.1.1,hb.2⟩
 refine ⟨h.below.grown hg h.Bw fun k e=>(h.rowBlk e).1,Nat.le_trans h.Bw hg.size,by rw [hx,List.length_append];exact hr,fun y hy=>?_⟩
 rcases List.mem_append.1 hy with hy|hy
 ·obtain ⟨M,hM⟩:=(h.own y hy).2
  exact ⟨(h.own y hy).1,M,hk hM⟩
 ·rw [List.mem_singleton.1 hy];exact ⟨hf,n,hk ho⟩
theorem PRL.cut {p:Option Addr} {n c:Nat} (h:PRL B T P W items (.slice p n c) w) {m:Nat} (hm:m≤n):PRL B T P W (items.take m) (.slice p m c) w:=by
 have hn:n=items.length:=by
  obtain ⟨p',c',e⟩:=h.form
  cases e;rfl
 have hr:=h.row
 rw [←hn] at hr
 have hr2:=ownsRow_cut hr hm
 rw [cellsL_take] at hr2
 have hl:(items.take m).length=m:=by rw [List.length_take];omega
 have e:(Value.slice p m c).ownBlock=(Value.slice p n c).ownBlock:=by cases p<;>rfl
 refine ⟨h.below,h.Bw,by rw [hl];exact hr2,fun x hx=>?_⟩
 rw [e]
 exact h.own x (List.mem_of_mem_take hx)
theorem PRL.at (h:PRL B T P W items v w) {i:Nat} {x:VT×Value} (hx:items[i]? =some x):∃ g c,v= .slice (some ⟨g,0,none⟩) items.length c∧At5 w g (i*5) x.1 x.2∧B≤g∧g<w.heap.size:=by
 have hi:=(List.getElem?_eq_some_iff.1 hx).1
 rcases h.row.2 with ⟨rfl,h0⟩|⟨g,cap,cur,rfl,hb,hg,hnc,hcm,hcs,htk⟩
 ·omega
 ·have k:∀ j u,j<5→(x.1.cells x.2)[j]? =some u→w.cell? ⟨g,i*5+j,none⟩=some u:=fun j u hj hu=>by
   have:=cellsL_at hx j hj
   rw [←htk,List.getElem?_take_of_lt (by omega),Array.getElem?_toList,hu] at this
   unfold World.cell?
   rw [hg]
   simpa using this
  exact ⟨g,cap,rfl,⟨k 0 _ (by omega) rfl,k 1 _ (by omega) rfl,k 2 _ (by omega) rfl,k 3 _ (by omega) rfl,k 4 _ (by omega) rfl⟩,hb,(Array.getElem?_eq_some_iff.1 hg).1⟩
theorem PRL.lat (h:PRL B T P W items v w) (hP:∀ b,B≤b→P b) (hm:items.length≤maxLen):∃ M,LAtP P w M v (items.map (·.1)):=by
 obtain ⟨M,hM⟩:=lat_level fun x hx=>let ⟨M,hM⟩:=(h.own x hx).2;⟨M,hM.weak (Q:=P) fun b hb _=>hb.1⟩
 refine ⟨M+1,?_⟩
 cases items with
 |nil=>
  obtain ⟨p,c,rfl⟩:=h.form
  exact .inl ⟨rfl,p,c,rfl⟩
 |cons a r=>
  obtain ⟨g,c,rfl, -,hg1,hg2⟩:=h.at (i:=0) (x:=a) rfl
  refine .inr ⟨g,0,c,by rw [List.length_map],hP g hg1,hg2,by rw [List.length_map];exact hm,fun i t ht=>?_⟩
  rw [List.getElem?_map] at ht
  obtain ⟨x,hx,rfl⟩:=Option.map_eq_some_iff.1 ht
  obtain ⟨g',c',e,ha, -, -⟩:=h.at hx
  cases e
  exact ⟨(h.own x (List.mem_of_getElem? hx)).1,x.2,by rw [Nat.zero_add];exact ha,hM x (List.mem_of_getElem? hx)⟩
theorem PRL.packed {T2:TypeId} {b:Nat} {vs:List Value} {k:Int} {cs:Array Value} {X:World} (h:PRL B T P W items v w) (hP:∀ b',B≤b'→P b') (hb:¬P b) (hm:items.length≤maxLen) (hk:0≤k∧k≤120)
 (hcs:cs= #[.int .i64 5,.int .u64 k,.string empt,.slice none 0 0,.int .i64 0,.int .i64 21,.int .u64 0,.string empt,v,.int .i64 0]) (hX:(w.alloc (.cells cs T2)).setCells b 0 vs=X):
 ∃ M,LAtP P X M (.slice (some ⟨w.heap.size,0,none⟩) 2 2) [.mk 5 k empt 0 [],.mk 21 0 empt 0 (items.map (·.1))]:=by
 obtain ⟨M,hM⟩:=h.lat hP hm
 have hPw:=hP _ h.Bw
 have hne:w.heap.size≠b:=fun e=>hb (e▸hPw)
 have h1:(w.alloc (.cells cs T2)).heap[w.heap.size]? =some (.cells cs T2 (0,0)):=heap_alloc_new _ _
 have hz1:(w.alloc (.cells cs T2)).heap.size=w.heap.size+1:=heap_alloc_size _ _
 have hzX:X.heap.size=w.heap.size+1:=by rw [←hX,setCells_sz];exact hz1
 have h2:X.heap[w.heap.size]? =some (.cells cs T2 (0,0)):=by rw [←hX,setCells_other hne];exact h1
 have hc:∀ j u,cs[j]? =some u→X.cell? ⟨w.heap.size,j,none⟩=some u:=fun j u hu=>by
  unfold World.cell?
  rw [h2]
  simpa using hu
 have hl:LAtP P X M v (items.map (·.1)):=by
  have hbl:Below w.heap.size w (w.alloc (.cells cs T2)):=(Below.refl _ _).alloc (Nat.le_refl _) _
  rw [←hX]
  exact (hM.below hbl).heap (by rw [setCells_sz];exact Nat.le_refl _) fun b' hb' _=>setCells_other (fun e=>hb (by rw [←e];exact hb')) _ _
 subst hcs
 refine ⟨M+2,.inr ⟨w.heap.size,0,2,rfl,hPw,by omega,(by show 2≤maxLen;decide),fun i t ht=>?_⟩⟩
 match i,ht with
 |0,ht=>
  cases ht
  exact ⟨⟨by show _≤(5:Int);omega,by show (5:Int)≤_;omega,hk.1,by show k≤_;omega,by show _≤(0:Int);omega,by show (0:Int)≤_;omega,by show empt.size≤_;decide⟩,.slice none 0 0,⟨hc 0 _ rfl,hc 1 _ rfl,hc 2 _ rfl,hc 3 _ rfl,hc 4 _ rfl⟩,LAtP.nil _ _ _⟩
 |1,ht=>
  cases ht
  exact ⟨⟨by show _≤(21:Int);omega,by show (21:Int)≤_;omega,by show (0:Int)≤0;omega,by show (0:Int)≤_;omega,by show _≤(0:Int);omega,by show (0:Int)≤_;omega,by show empt.size≤_;decide⟩,v,⟨hc 5 _ rfl,hc 6 _ rfl,hc 7 _ rfl,hc 8 _ rfl,hc 9 _ rfl⟩,hl.mono (by omega)⟩
 |i+2,ht=>simp at ht
theorem zip_takes {rd:Rd} {fs:List FT} {l:List VT} {i:Nat} {f:FT} {v:VT} (hf:fs[i]? =some f) (hv:l[i]? =some v) {items:List (VT×Value)} (h:items.map (·.1)=(List.zipWith (itemP rd) fs l).take i) {x:VT×Value} (hx:x.1=itemP rd f v):(items++[x]).map (·.1)=(List.zipWith (itemP rd) fs l).take (i+1):=by
 rw [List.take_add_one,zip_get hf hv,←h,List.map_append,←hx];rfl
theorem PRL.cap {p:Option Addr} {n c:Nat} (h:PRL B T P W items (.slice p n c) w):n≤c:=by
 have hn:n=items.length:=by
  obtain ⟨p',c',e⟩:=h.form
  cases e;rfl
 rcases h.row.2 with ⟨e,h0⟩|⟨g,cap,cur,e,hb,hg,hnc,hcm,hcs,htk⟩
 ·omega
 ·cases e;omega
theorem PRL.aside (h:PRL B T P W items v w) {r:Nat} (hg:w.grownBy w' (some r)) (hr:r<B) (hP:¬P r):PRL B T P w' items v w':=by
 refine ⟨Below.refl _ _,Nat.le_trans h.Bw hg.size,World.ownsRow.kept h.row hg ?_,fun x hx=>⟨(h.own x hx).1,let ⟨M,hM⟩:=(h.own x hx).2;⟨M,hM.heap hg.size fun b hb hlt=>hg.block b hlt fun e=>?_⟩⟩⟩
 ·cases hv:v.ownBlock with
  |none=>exact .inl rfl
  |some b=>
   refine .inr (fun e=>?_)
   cases e
   have:=(h.rowBlk hv).1
   omega
 ·cases e
  exact hP hb.1
theorem PRL.here (h:PRL B T P W items v w):PRL B T P w items v w:=⟨Below.refl _ _,h.Bw,h.row,h.own⟩
end
section
variable {B:Nat} {T:TypeId} {P Q:Nat→Prop} {W w w':World} {items:List (VT×Value)} {v:Value}
theorem PRL.told (h:PRL B T P W items v w) (hPQ:∀ b,P b→b<w.heap.size→Q b):PRL B T Q W items v w:=
 ⟨h.below,h.Bw,h.row,fun x hx=>⟨(h.own x hx).1,let ⟨M,hM⟩:=(h.own x hx).2;⟨M,hM.weak fun b hb hlt=>⟨hPQ b hb.1 hlt,hb.2⟩⟩⟩⟩
theorem PRL.beside (h:PRL B T P W items v w) {r:Nat} (hg:w.grownBy w' (some r)) (hv:v.ownBlock≠some r) (hP:¬P r):PRL B T P w' items v w':=by
 refine ⟨Below.refl _ _,Nat.le_trans h.Bw hg.size,World.ownsRow.kept h.row hg ?_,fun x hx=>⟨(h.own x hx).1,let ⟨M,hM⟩:=(h.own x hx).2;⟨M,hM.heap hg.size fun b hb hlt=>hg.block b hlt fun e=>?_⟩⟩⟩
 ·cases hv':v.ownBlock with
  |none=>exact .inl rfl
  |some b=>exact .inr (fun e=>by cases e;exact hv hv')
 ·cases e
  exact hP hb.1
theorem PRL.all (h:PRL B T P W items v w) (hm:items.length≤maxLen):∃ M,LAt w.heap.size w M v (items.map (·.1)):=by
 obtain ⟨M,hM⟩:=(h.told (Q:=fun _=>True) fun _ _ _=>trivial).lat (fun _ _=>trivial) hm
 exact ⟨M,hM.lat⟩
end
def rawB (bs:List Bool) (i:Nat):Bool:=(bs[i]?).getD false
theorem longL_takes {raw:Nat→Bool} {fs:List FT} {g:List VT} {i:Nat} {f:FT} (hf:fs[i]? =some f) {items:List (VT×Value)} (h:items.map (·.1)=(longL raw fs g).take i) {x:VT×Value} (hx:x.1=longI (raw i) f ((g[i]?).getD zeroT)):(items++[x]).map (·.1)=(longL raw fs g).take (i+1):=by
 rw [List.take_add_one,longL_get,hf,Option.map_some,List.map_append,h,←hx];rfl
theorem longI_keep {raw:Nat→Bool} {i:Nat} {f:FT} {u:VT} (h:raw i=false∨u.kind≠0):longI (raw i) f u=u:=by
 unfold longI
 rw [if_neg]
 rintro ⟨h1,h2⟩
 rcases h with h|h
 ·rw [h] at h1;cases h1
 ·exact h h2
theorem longI_dflt {raw:Nat→Bool} {i:Nat} {f:FT} {u:VT} (h1:raw i=true) (h2:u.kind=0):longI (raw i) f u=f.dflt:=if_pos ⟨h1,h2⟩
theorem rawB_out {bs:List Bool} {i:Nat} (h:bs.length≤i):rawB bs i=false:=by
 unfold rawB
 rw [List.getElem?_eq_none h];rfl
theorem rawB_at {bs:List Bool} {i:Nat} {b:Bool} (h:bs[i]? =some b):rawB bs i=b:=by
 unfold rawB
 rw [h];rfl
theorem nodes_longI (r:Bool) (f:FT) (x:VT):nodes (longI r f x)≤nodes x:=by
 unfold longI
 split
 ·rw [nodes_dflt];exact nodes_pos x
 ·exact Nat.le_refl _
theorem longL_cons (raw:Nat→Bool) (f:FT) (fs:List FT) (g:List VT):longL raw (f::fs) g=longI (raw 0) f ((g[0]?).getD zeroT)::longL (fun i=>raw (i+1)) fs g.tail:=by
 unfold longL
 rw [List.mapIdx_cons]
 congr 1
 refine congrArg (fun h=>List.mapIdx h fs) (funext fun i=>funext fun f=>?_)
 cases g<;>simp
theorem nodesL_longL:∀ (raw:Nat→Bool) (fs:List FT) (g:List VT),nodesL (longL raw fs g)≤nodesL g+fs.length
 |raw,[],g=>by show nodesL []≤_;rw [nodesL];omega
 |raw,f::fs,g=>by
  have ih:=nodesL_longL (fun i=>raw (i+1)) fs g.tail
  have h1:=nodes_longI (raw 0) f ((g[0]?).getD zeroT)
  rw [longL_cons,nodesL,List.length_cons]
  cases g with
  |nil=>
   have e:nodes (((([]:List VT)[0]?).getD zeroT))=1:=nodes_zeroT
   rw [e] at h1
   simp only [List.tail_nil] at ih ⊢
   omega
  |cons a r=>
   have e:(((a::r)[0]?).getD zeroT)=a:=rfl
   rw [e] at h1 ⊢
   simp only [List.tail_cons] at ih ⊢
   rw [nodesL];omega
theorem nodes_longV (k:Int) (L:List VT):nodes (longV k L)=nodesL L+3:=by
 unfold longV
 simp [nodes,nodesL]
 omega
theorem nodesL_snoc (l:List VT) (x:VT):nodesL (l++[x])=nodesL l+nodes x:=by
 induction l with
 |nil=>simp [nodesL]
 |cons a r ih=>rw [List.cons_append,nodesL,nodesL,ih];omega
theorem setCell_again {w:World} {b o:Nat} {u:Value} (h:w.cell? ⟨b,o,none⟩=some u):w.setCell ⟨b,o,none⟩ u=w:=by
 have key:(w.setCell ⟨b,o,none⟩ u).heap=w.heap:=by
  refine Array.ext_getElem? fun i=>?_
  simp only [World.setCell,Array.getElem?_modify]
  split
  ·rename_i e
   subst e
   unfold World.cell? at h
   cases hob:w.heap[b]? with
   |none=>rfl
   |some ob=>
    rw [hob] at h
    cases ob with
    |cells c t fz=>
     simp only [Option.isSome_none,Bool.false_eq_true,↓reduceIte,Option.map_some] at h ⊢
     congr 2
     refine Array.ext_getElem? fun j=>?_
     rw [Array.getElem?_setIfInBounds]
     split
     ·rename_i e
      subst e
      obtain ⟨hlt,_⟩:=Array.getElem?_eq_some_iff.1 (show c[o]? =some u from h)
      rw [if_pos hlt];exact h.symm
     ·rfl
    |_=>rfl
  ·rfl
 have:w.setCell ⟨b,o,none⟩ u= {w with heap:=(w.setCell ⟨b,o,none⟩ u).heap}:=rfl
 rw [this,key]
theorem setCells_again {b:Nat}:∀ {vs:List Value} {o:Nat} {w:World},(∀ j u,vs[j]? =some u→w.cell? ⟨b,o+j,none⟩=some u)→w.setCells b o vs=w
 |[],_,_,_=>rfl
 |v::r,o,w,h=>by
  rw [World.setCells,setCell_again (b:=b) (o:=o) (u:=v) (h 0 v rfl)]
  exact setCells_again fun j u hu=>by
   have:=h (j+1) u hu
   rwa [show o+(j+1)=o+1+j by omega] at this
end Go.Proofs.Nu
