/-
  The texts NuUnpack NuNodes NuText NuMapR NuLat NuGood NuSmall NuBook of this claim, one behind the other.
-/
import Derived.Test.YtfoiaiblggapeaaGreatDoorZPUA0
set_option maxHeartbeats 40000000
namespace Go.Proofs.Nu
open Go Go.RowKit
structure URel (g m:Nat) (W:World) (ys:List VT) (w:World):Prop where
 below:Below g W w
 glt:g<W.heap.size
 same:∀ k,k<W.heap.size→k≠g→w.heap[k]? =W.heap[k]?
 there:w.there g 0 (m*5)
 done:∃ vss:List (List Value),vss.length=ys.length∧Blk W.heap.size w.heap.size vss.flatten∧ApartV vss.flatten∧∀ (i:Nat) (y:VT) (us:List Value),ys[i]? =some y→vss[i]? =some us→y.Fine∧∃ lv,At5 w g (i*5) y lv∧OL w LV lv y.list us
section
variable {g m:Nat} {W w w' w2:World} {ys:List VT}
theorem URel.start (hg:g<W.heap.size) (ht:W.there g 0 (m*5)):URel g m W [] W:=
 ⟨Below.refl _ _,hg,fun _ _ _=>rfl,ht,[],rfl,Blk.nil _ _,ApartV.nil,fun i y us h=>by simp at h⟩
theorem URel.size (h:URel g m W ys w):W.heap.size≤w.heap.size:=h.below.size
theorem URel.keep (h:URel g m W ys w) (hb:Below w.heap.size w w'):URel g m W ys w':=by
 have hz:=h.size
 have hg:=h.glt
 obtain ⟨vss,h1,h2,h3,h4⟩:=h.done
 refine ⟨h.below.trans (hb.mono (by omega)),hg,fun k hk hkg=>(hb.block k (by omega)).trans (h.same k hk hkg),there_heap h.there (hb.block g (by omega)),vss,h1,h2.mono (Nat.le_refl _) hb.size,h3,fun i y us hy hu=>?_⟩
 obtain ⟨hf,lv,ha,ho⟩:=h4 i y us hy hu
 exact ⟨hf,lv,ha.heap (hb.block g (by omega)),ho.below hb⟩
theorem URel.box (h:URel g m W ys w) {b:Nat} {cs:List Value} (hx:Box W b cs) (hb:b<W.heap.size) (hbg:b≠g):Box w b cs:=hx.heap (h.same b hb hbg)
theorem URel.step (h:URel g m W ys w) (hl:ys.length<m) {y:VT} {lv:Value} {us:List Value} (hb:Below w.heap.size w w2) (hf:y.Fine) (ho:OL w2 LV lv y.list us) (hbk:Blk w.heap.size w2.heap.size us) (hap:ApartV us):
 w2.there g (ys.length*5) 5∧URel g m W (ys++[y]) (w2.setCells g (ys.length*5) (y.cells lv)):=by
 have hk:=h.keep hb
 have hz:=h.size
 have hg:=h.glt
 have hsz:=hb.size
 have hj5:w2.there g (ys.length*5) 5:=fun k hk'=>by
  have:=hk.there (ys.length*5+k) (by omega)
  rwa [Nat.zero_add] at this
 obtain ⟨vss,h1,h2,h3,h4⟩:=h.done
 have zz:(w2.setCells g (ys.length*5) (y.cells lv)).heap.size=w2.heap.size:=setCells_sz ..
 refine ⟨hj5,hk.below.trans (setCells_below' (Nat.le_refl _) _ _),hg,fun k h1 h2=>(setCells_other h2 _ _).trans (hk.same k h1 h2),World.there_setCells hk.there _ _ _,vss++[us],by simp [h1],?_,?_,fun i x vs hx hv=>?_⟩
 ·rw [zz,List.flatten_append]
  exact (h2.mono (Nat.le_refl _) hsz).append (by simpa using hbk.mono hz (Nat.le_refl _))
 ·rw [List.flatten_append]
  exact h3.append (by simpa using hap) h2 (by simpa using hbk)
 ·rcases Nat.lt_or_ge i ys.length with hlt|hge
  ·rw [List.getElem?_append_left (by omega)] at hv
   rw [List.getElem?_append_left hlt] at hx
   obtain ⟨hf',lv',ha,ho'⟩:=h4 i x vs hx hv
   refine ⟨hf',lv',at5_out (ha.heap (hb.block g (by omega))) (.inl (by omega)),(ho'.below hb).heap (by omega) fun u hu b hb'=>setCells_other (fun e=>?_) _ _⟩
   have:=h2 u (List.mem_flatten.2 ⟨vs,List.mem_of_getElem? hv,hu⟩) b hb'
   omega
  ·rw [List.getElem?_append_right (by omega)] at hv
   rw [List.getElem?_append_right hge] at hx
   have e0:i-ys.length=0:=by have:=(List.getElem?_eq_some_iff.1 hx).1;simp at this;omega
   rw [h1,e0] at hv
   rw [e0] at hx
   simp at hv hx
   subst hv hx
   obtain rfl:i=ys.length:=by omega
   refine ⟨hf,lv,at5_of_setCells hj5,ho.heap (by omega) fun u hu b hb'=>setCells_other (fun e=>?_) _ _⟩
   have:=hbk u hu b hb'
   omega
theorem URel.all (h:URel g m W ys w) (hl:ys.length=m) (hm:m≤1000) (hn:nodesL ys≤1000000000000):∃ us,OL w LV (.slice (some ⟨g,0,none⟩) m m) ys us∧Blk g w.heap.size us∧ApartV us:=by
 obtain ⟨vss,h1,h2,h3,h4⟩:=h.done
 have hg:=h.glt
 have hz:=h.size
 refine ⟨vss.flatten++[.slice (some ⟨g,0,none⟩) m m],OL.lvN (n:=LV+1) (.inr ⟨g,m,vss,by rw [hl],by omega,by omega,by unfold maxLen;omega,h.there,h1,rfl,fun i t us ht hu=>?_⟩) (by unfold LV;omega),(h2.mono (by omega) (Nat.le_refl _)).append fun v hv b hb=>?_,h3.snoc fun u hu b hb e=>?_⟩
 ·exact h4 i t us ht hu
 ·rw [List.mem_singleton.1 hv] at hb
  simp [Value.ownBlock] at hb
  omega
 ·have:=h2 u hu b hb
  simp [Value.ownBlock] at e
  omega
end
theorem itemsG_at {rd:Rd}:∀ {fs:List FT} {g:List VT} {i j:Nat} {e:Int} {f:FT},fs[j]? =some f→itemG rd f ((g[j]?).getD zeroT)= .error e→(∀ (k:Nat) (f:FT),k<j→fs[k]? =some f→∃ y,itemG rd f ((g[k]?).getD zeroT)= .ok y)→itemsG rd fs g i= .error (i+j,e)
 |[],g,i,j,e,f,hf,_,_=>by simp at hf
 |f0::fs,g,i,0,e,f,hf,he,_=>by
  simp at hf;subst hf
  unfold itemsG
  rw [headD_get,he];rfl
 |f0::fs,g,i,j+1,e,f,hf,he,hk=>by
  obtain ⟨y,hy⟩:=hk 0 f0 (by omega) rfl
  unfold itemsG
  rw [headD_get,hy]
  simp only
  rw [itemsG_at (fs:=fs) (j:=j) (e:=e) (f:=f) (by simpa using hf) (by rw [tail_get];exact he) fun k f' hk' hf'=>by rw [tail_get];exact hk (k+1) f' (by omega) hf']
  simp only
  congr 2
  omega
theorem kindOf_two {v:VT} {k:Int} (h:kindOf v=some k):∃ d x,v.list=[d,x]:=by
 unfold kindOf at h
 split at h
 ·rename_i hc
  match hl:v.list,hc.2 with
  |[d,x],_=>exact ⟨d,x,rfl⟩
 ·cases h
theorem unpackG_none {rd:Rd} {v:VT} (h:(kindOf v).bind fieldsT=none):unpackG rd v= .error (0,70):=by
 unfold unpackG
 cases hk:kindOf v with
 |none=>rfl
 |some k=>rw [hk] at h;simp only [Option.bind_some] at h;simp only [h]
theorem unpackG_eq {rd:Rd} {v:VT} {k:Int} {fs:List FT} {d x:VT} (hk:kindOf v=some k) (hf:fieldsT k=some fs) (hl:v.list=[d,x]):unpackG rd v=if x.kind≠21 then .error (0,70) else if fs.length<x.list.length then .error (fs.length,71) else
         match itemsG rd fs x.list 0 with
         | .error e=> .error e
         | .ok l=> .ok (k,l):=by
 unfold unpackG
 rw [hk]
 simp only [hf,hl]
 cases itemsG rd fs x.list 0<;>rfl
theorem OL.single {w5 W:World} {y:VT} {lv:Value} {us:List Value} {lo:Nat} {T:TypeId} {cs:Array Value} (ho:OL w5 LV lv y.list us) (hf:y.Fine) (hbk:Blk lo w5.heap.size us) (hap:ApartV us) (hn:nodes y≤1000000000000) (hlo:lo≤w5.heap.size) (hW:w5.alloc (.cells cs T)=W) (hcs:cs= #[.int .i64 y.kind,.int .u64 y.num,.string y.text,lv,.int .i64 y.elem]):
 ∃ us',OL W LV (.slice (some ⟨w5.heap.size,0,none⟩) 1 1) [y] us'∧Blk lo W.heap.size us'∧ApartV us'∧Below w5.heap.size w5 W:=by
 subst hcs
 obtain ⟨hx,hz,hba⟩:=one_box (w:=w5) (cs:=y.cells lv) (T:=T) hW
 refine ⟨[us].flatten++[.slice (some ⟨w5.heap.size,0,none⟩) 1 1],OL.lvN (n:=LV+1) (.inr ⟨w5.heap.size,1,[us],rfl,by omega,Nat.le_refl _,by show 1≤maxLen;unfold maxLen;omega,hx.2,rfl,rfl,fun i t vs ht hu=>?_⟩) ?_,?_,?_,hba⟩
 ·match i,ht,hu with
  |0,ht,hu=>
   cases ht;cases hu
   exact ⟨hf,lv,⟨hx.cell (j:=0) rfl,hx.cell (j:=1) rfl,hx.cell (j:=2) rfl,hx.cell (j:=3) rfl,hx.cell (j:=4) rfl⟩,ho.below hba⟩
  |i+1,ht,hu=>simp at ht
 ·have:nodesL [y]=nodes y:=by simp [nodesL]
  unfold LV
  omega
 ·have e:[us].flatten=us:=by simp
  rw [e]
  exact (hbk.mono (Nat.le_refl _) (by omega)).append fun u hu c hc=>by rw [List.mem_singleton.1 hu] at hc;simp [Value.ownBlock] at hc;omega
 ·have e:[us].flatten=us:=by simp
  rw [e]
  refine hap.snoc fun u hu c hc e=>?_
  have:=hbk u hu c hc
  simp [Value.ownBlock] at e
  omega
def UnAns (a:Except (Nat×Int) (Int×List VT)) (w:World) (r:Ending) (w':World):Prop:=
 Below w.heap.size w w'∧match a with
  | .ok (k,l)=>∃ lv us,r= .returned (.tuple #[.agg #[.int .i64 k,lv],.int .i64 0,.int .i64 0])∧OL w' LV lv l us∧Blk w.heap.size w'.heap.size us∧ApartV us
  | .error (i,e)=>r= .returned (.tuple #[.agg #[.int .i64 0,.slice none 0 0],.int .i64 i,.int .i64 e])
theorem items_push {rd:Rd} {fs:List FT} {g ys:List VT} {y:VT} {j:Nat} {f:FT} (hl:ys.length=j) (h:∀ (k:Nat) (f:FT) (y:VT),fs[k]? =some f→ys[k]? =some y→itemG rd f ((g[k]?).getD zeroT)= .ok y) (hf:fs[j]? =some f) (hy:itemG rd f ((g[j]?).getD zeroT)= .ok y):
 ∀ (k:Nat) (f:FT) (z:VT),fs[k]? =some f→(ys++[y])[k]? =some z→itemG rd f ((g[k]?).getD zeroT)= .ok z:=fun k f' z hf' hz=>by
 rcases Nat.lt_or_ge k ys.length with hlt|hge
 ·rw [List.getElem?_append_left hlt] at hz
  exact h k f' z hf' hz
 ·rw [List.getElem?_append_right hge] at hz
  have e0:k-ys.length=0:=by have:=(List.getElem?_eq_some_iff.1 hz).1;simp at this;omega
  rw [e0] at hz
  simp at hz
  subst hz
  obtain rfl:k=j:=by omega
  rw [hf] at hf'
  cases hf'
  exact hy
theorem items_fault {rd:Rd} {fs:List FT} {g ys:List VT} {j:Nat} {f:FT} {e:Int} (hl:ys.length=j) (h:∀ (k:Nat) (f:FT) (y:VT),fs[k]? =some f→ys[k]? =some y→itemG rd f ((g[k]?).getD zeroT)= .ok y) (hf:fs[j]? =some f) (he:itemG rd f ((g[j]?).getD zeroT)= .error e):itemsG rd fs g 0= .error (j,e):=by
 have:=itemsG_at (i:=0) hf he fun k f' hk hf'=>⟨ys[k]'(by omega),h k f' _ hf' (List.getElem?_eq_getElem (by omega))⟩
 rwa [Nat.zero_add] at this
theorem itemG_dflt {rd:Rd} {f:FT} {y:VT} (hy:y.kind=0) (hm:f.must=false):itemG rd f y= .ok f.dflt:=by unfold itemG;rw [if_pos hy,hm];rfl
theorem itemG_must {rd:Rd} {f:FT} {y:VT} (hy:y.kind=0) (hm:f.must=true):itemG rd f y= .error 72:=by unfold itemG;rw [if_pos hy,hm];rfl
theorem itemG_sym {rd:Rd} {f:FT} {y:VT} (ht:f.type=101) (hk:y.kind=20):itemG rd f y= .ok (symArr y):=by unfold itemG;rw [if_neg (by omega),if_pos ⟨ht,hk⟩]
theorem itemG_rd {rd:Rd} {f:FT} {y:VT} (h0:y.kind≠0) (hs:¬(f.type=101∧y.kind=20)) (hw:wantedT f y=true):itemG rd f y=rd f y:=by unfold itemG;rw [if_neg h0,if_neg hs,if_pos hw]
theorem itemG_bad {rd:Rd} {f:FT} {y:VT} (h0:y.kind≠0) (hs:¬(f.type=101∧y.kind=20)) (hw:wantedT f y=false):itemG rd f y= .error 73:=by unfold itemG;rw [if_neg h0,if_neg hs,if_neg (by simp [hw])]
def Mild2 (rd:Rd):Prop:=∀ f x y,rd f x= .ok y→nodes y≤2*nodes x
theorem nodes_zeroT:nodes zeroT=1:=by simp [zeroT,nodes,nodesL]
theorem nodes_dflt (f:FT):nodes f.dflt=1:=by unfold FT.dflt;simp [nodes,nodesL]
theorem nodes_symArr (x:VT):nodes (symArr x)=nodes x+1:=by unfold symArr;simp [nodes,nodesL]
theorem item_nodes2 {rd:Rd} (hm:Mild2 rd) {f:FT} {x y:VT} (h:itemG rd f x= .ok y):nodes y≤2*nodes x∧(x.kind=0→y=f.dflt):=by
 have:=nodes_pos x
 unfold itemG at h
 split at h
 ·split at h
  ·cases h
  ·cases h
   exact ⟨by rw [nodes_dflt];omega,fun _=>rfl⟩
 ·rename_i hk
  refine ⟨?_,fun h=>absurd h hk⟩
  split at h
  ·cases h
   rw [nodes_symArr];omega
  ·split at h
   ·exact hm f x y h
   ·cases h
theorem items_nodes2 {rd:Rd} (hm:Mild2 rd):∀ {fs:List FT} {g:List VT} {i:Nat} {l:List VT},itemsG rd fs g i= .ok l→nodesL l≤2*nodesL g+fs.length
 |[],g,i,l,h=>by cases h;simp [nodesL]
 |f::fs,g,i,l,h=>by
  unfold itemsG at h
  split at h
  ·cases h
  ·rename_i y hy
   split at h
   ·cases h
   ·rename_i r hr
    cases h
    have h2:=items_nodes2 hm hr
    cases g with
    |nil=>
     have hz:nodes y=1:=by rw [(item_nodes2 hm hy).2 rfl,nodes_dflt]
     simp only [List.tail_nil,nodesL,List.length_cons] at h2 ⊢
     omega
    |cons a b=>
     have h1:=(item_nodes2 hm hy).1
     simp only [List.headD_cons,List.tail_cons,nodesL,List.length_cons] at h1 h2 ⊢
     omega
theorem trim_cons_nodes (a:VT) (r:List VT):nodesL (trimT (a::r))≤nodes a+nodesL (trimT r):=by
 rw [trimT]
 split
 ·split<;>simp [nodesL]
 ·rename_i h;rw [h];simp [nodesL]
theorem items_trim {rd:Rd} (hm:Mild2 rd) (hp:Plain rd) (hs:Stay rd):∀ {fs:List FT} {g:List VT} {i:Nat} {l:List VT},(∀ f∈fs,fieldGood f=true)→itemsG rd fs g i= .ok l→nodesL (trimT (List.zipWith (itemP rd) fs l))≤2*nodesL g∧(g=[]→trimT (List.zipWith (itemP rd) fs l)=[])
 |[],g,i,l,_,h=>by cases h;simp [trimT,nodesL]
 |f::fs,g,i,l,hg,h=>by
  unfold itemsG at h
  split at h
  ·cases h
  ·rename_i y hy
   split at h
   ·cases h
   ·rename_i r hr
    cases h
    have h2:=items_trim hm hp hs (fun f' hf=>hg f' (List.mem_cons_of_mem _ hf)) hr
    have h3:=item_again hp hs (hg f List.mem_cons_self) hy
    have h4:=item_nodes2 hm hy
    have hz:(g.headD zeroT).kind=0→itemP rd f y=zeroT:=fun hk=>by rw [h4.2 hk];unfold itemP;rw [if_pos (.inr (eqT_self _))]
    rw [List.zipWith_cons_cons]
    cases g with
    |nil=>
     have h5:=h2.2 rfl
     have e:trimT (itemP rd f y::List.zipWith (itemP rd) fs r)=[]:=by
      rw [trimT,h5,hz rfl];rfl
     exact ⟨by rw [e];simp [nodesL],fun _=>e⟩
    |cons a b=>
     refine ⟨?_,fun h=>by cases h⟩
     have h5:=trim_cons_nodes (itemP rd f y) (List.zipWith (itemP rd) fs r)
     have h6:nodes (itemP rd f y)≤2*nodes a:=by
      have:=nodes_pos a
      have h7:=h4.1
      simp only [List.headD_cons] at h7
      rcases h3.2 with e|e<;>rw [e]
      ·rw [nodes_zeroT];omega
      ·exact h7
     have h7:=h2.1
     simp only [List.tail_cons,nodesL] at h7 ⊢
     omega
theorem norm_nodes2 {rd:Rd} (hm:Mild2 rd) (hp:Plain rd) (hs:Stay rd) {v:VT} {k:Int} {l:List VT} (h:unpackG rd v= .ok (k,l)):nodes (packG rd k l)≤2*nodes v:=by
 obtain ⟨fs,hk,hf,d,x,h3,h4,h5,h6⟩:=unpackG_ok h
 have h1:=(items_trim hm hp hs (fun f hfm=>field_good hf hfm) h6).1
 have h7:=nodes_eq v
 rw [h3] at h7
 have h8:nodesL [d,x]=nodes d+nodes x:=by simp [nodesL]
 have h9:=nodes_eq x
 have h10:=nodes_pos d
 unfold packG
 rw [hf,Option.getD_some,nodes_packV]
 omega
theorem unpack_nodes2 {rd:Rd} (hm:Mild2 rd) {v:VT} {k:Int} {l:List VT} (h:unpackG rd v= .ok (k,l)):nodesL l+13≤2*(nodes v+13):=by
 obtain ⟨fs,hk,hf,d,x,h3,h4,h5,h6⟩:=unpackG_ok h
 have h1:=items_nodes2 hm h6
 have h2:=fieldsT_len hf
 have h7:=nodes_eq v
 rw [h3] at h7
 have h8:nodesL [d,x]=nodes d+nodes x:=by simp [nodesL]
 have h9:=nodes_eq x
 have:=nodes_pos d
 omega
theorem mild2F:∀ n,Mild2 (readF n)
 |0=>fun f x y h=>by
  by_cases ht:f.type=102
  ·have h:readG _ _ f x=_:=h
   unfold readG at h
   rw [if_pos ht] at h
   cases h
  ·rw [readF_plain 0 f x ht] at h
   cases h;omega
 |n+1=>fun f x y h=>by
  by_cases ht:f.type=102
  ·have h:readG _ _ f x=_:=h
   unfold readG at h
   rw [if_pos ht] at h
   split at h
   ·cases h
   ·rename_i a ha
    obtain ⟨k,l⟩:=a
    cases h
    exact norm_nodes2 (mild2F n) (readF_plain n) (stayF n) ha
  ·rw [readF_plain (n+1) f x ht] at h
   cases h;omega
theorem unpack_ready {rd:Rd} (hs:Stay rd) {v:VT} {k:Int} {l:List VT} {fs:List FT} (h:unpackG rd v= .ok (k,l)) (hf:fieldsT k=some fs):l.length=fs.length∧∀ (j:Nat) (f:FT) (y:VT),fs[j]? =some f→l[j]? =some y→y.kind=0∨eqT y f.dflt=true∨wantedT f y=true:=by
 obtain ⟨fs',_,hf',d,x,_,_,_,h6⟩:=unpackG_ok h
 rw [hf'] at hf
 cases hf
 obtain ⟨hl,hi⟩:=itemsG_ok h6
 refine ⟨hl,fun j f y hj hy=>?_⟩
 have:=hi j f y hj hy
 unfold itemG at this
 split at this
 ·split at this
  ·cases this
  ·cases this;exact .inr (.inl (eqT_self _))
 ·rename_i hk
  split at this
  ·rename_i ht
   cases this;exact .inr (.inr (wanted_arr ht.1 _))
  ·split at this
   ·rename_i hw
    exact .inr (.inr (hs f _ y hk hw this).2.1)
   ·cases this
theorem packV_fine (k:Int) (l:List VT):(packV k l).Fine:=⟨by show _≤(24:Int);omega,by show (24:Int)≤_;omega,by show (0:Int)≤0;omega,by show (0:Int)≤_;omega,by show _≤(0:Int);omega,by show (0:Int)≤_;omega,by show empt.size≤_;decide⟩
theorem fieldsC_drop {rd:Rd} {fs:List FT} {l:List VT} {j:Nat} {f:FT} {v:VT} (hf:fs[j]? =some f) (hv:l[j]? =some v):fieldsC rd (fs.drop j) (l.drop j)=if fieldC rd f v≠0 then fieldC rd f v else fieldsC rd (fs.drop (j+1)) (l.drop (j+1)):=by
 obtain ⟨h1,h1'⟩:=List.getElem?_eq_some_iff.1 hf
 obtain ⟨h2,h2'⟩:=List.getElem?_eq_some_iff.1 hv
 rw [List.drop_eq_getElem_cons h1,List.drop_eq_getElem_cons h2,h1',h2']
 rfl
theorem pack_nodes2 {rd:Rd} (hm:Mild2 rd) (k:Int) (l:List VT):nodes (packG rd k l)≤2*nodesL l+3:=by
 unfold packG
 rw [nodes_packV]
 have h1:=nodesL_trim (List.zipWith (itemP rd) ((fieldsT k).getD []) l)
 have h2:=zip_nodes (g:=itemP rd) (c:=2) (by omega) (fs:=(fieldsT k).getD []) (l:=l) fun j f y _ _=>by
  have:=nodes_pos y
  unfold itemP
  split
  ·rw [nodes_zeroT];omega
  ·cases h:rd f y with
   |error e=>show nodes zeroT≤_;rw [nodes_zeroT];omega
   |ok z=>exact hm f y z h
 omega
end Go.Proofs.Nu
namespace Go.Proofs.Nu
open Go
theorem ch_extract (s:ByteArray) (k:Nat) (hk:k≤s.size):ch (s.extract k s.size) 0=ch s k:=by
 have hsz:(s.extract k s.size).size=s.size-k:=by simp
 have e:∀ j,(j<s.size-k)=(k+j<s.size):=fun j=>by apply propext;omega
 simp only [ch,pr,tl,wi,get!_extract s k _ hk,hsz,Nat.zero_add,Nat.add_zero,e,Nat.add_assoc]
def contL (s:ByteArray) (n least:Int):Nat→Nat→Int→Int
 |0,_,pt=>if pt<least∨1114111<pt∨(55296≤pt∧pt≤57343) then 0 else n
 |f+1,i,pt=>if (s.get! i).toNat<128∨191<(s.get! i).toNat then 0 else contL s n least f (i+1) (64*pt+(s.get! i).toNat-128)
theorem cont_law {s:ByteArray} {n least:Int} {f i:Nat} {pt:Int}:contL s n least (f+1) i pt=if (s.get! i).toNat<128∨191<(s.get! i).toNat then 0 else contL s n least f (i+1) (64*pt+(s.get! i).toNat-128):=rfl
theorem let1 {s:ByteArray} (h:0<s.size) (hc:(s.get! 0).toNat<128):ch s 0=1:=by
 have:=(wi_iff s 0 0 127).2 ⟨h,by omega,by omega⟩
 unfold ch;rw [if_pos this]
theorem pr_iff (s:ByteArray) (k a b c d n:Nat):pr s k a b c d n=true↔wi s k a b=true∧wi s (k+1) c d=true∧tl s (k+2) n=true:=by simp [pr]
theorem tl0 (s:ByteArray) (k:Nat):tl s k 0=true↔True:=by simp [tl]
theorem tl1 (s:ByteArray) (k:Nat):tl s k 1=true↔wi s k 128 191=true:=by simp [tl]
theorem tl2 (s:ByteArray) (k:Nat):tl s k 2=true↔wi s k 128 191=true∧wi s (k+1) 128 191=true:=by simp [tl]
theorem ch_split (s:ByteArray) {A B C D:Prop} [Decidable A] [Decidable B] [Decidable C] [Decidable D] (ha:wi s 0 0 127=true↔A) (hb:pr s 0 194 223 128 191 0=true↔B)
 (hc:(pr s 0 224 224 160 191 1||(pr s 0 225 236 128 191 1||(pr s 0 237 237 128 159 1||pr s 0 238 239 128 191 1)))=true↔C)
 (hd:(pr s 0 240 240 144 191 2||(pr s 0 241 243 128 191 2||pr s 0 244 244 128 143 2))=true↔D):
 ch s 0=if A then 1 else if B then 2 else if C then 3 else if D then 4 else 0:=by
 unfold ch
 simp only [ha,hb,hc,hd]
theorem if2 {A:Prop} [Decidable A] {c:Prop} [Decidable c] {n:Int} (h:A↔¬c):(if A then n else 0)=if c then 0 else n:=by
 by_cases hc:c
 ·rw [if_pos hc,if_neg (by rw [h];exact fun h=>h hc)]
 ·rw [if_neg hc,if_pos (h.2 hc)]
theorem or_if {a b:Prop} [Decidable a] [Decidable b] {n:Int}:(if a then 0 else if b then 0 else n)=if a∨b then 0 else n:=by
 by_cases ha:a<;>by_cases hb:b<;>simp [ha,hb]
theorem let2 {s:ByteArray} (_h:0<s.size) (h0:194≤(s.get! 0).toNat) (h1:(s.get! 0).toNat<224):((ch s 0:Nat):Int)=if s.size<2 then 0 else contL s 2 128 1 1 ((s.get! 0).toNat-192):=by
 have e:=ch_split s (A:=False) (B:=2≤s.size∧128≤(s.get! 1).toNat∧(s.get! 1).toNat≤191) (C:=False) (D:=False)
  (by simp only [wi_iff,iff_false];omega) (by simp only [pr_iff,tl0,wi_iff,Nat.zero_add,and_true];omega) (by simp only [Bool.or_eq_true,pr_iff,wi_iff,iff_false];omega) (by simp only [Bool.or_eq_true,pr_iff,wi_iff,iff_false];omega)
 rw [e]
 clear e
 generalize hd1:(s.get! 1).toNat=d1
 simp only [contL,hd1,or_if]
 rw [←if2 (A:=2≤s.size∧128≤d1∧d1≤191) (by omega)]
 simp only [if_false]
 split<;>rfl
theorem let3 {s:ByteArray} (h:0<s.size) (h0:224≤(s.get! 0).toNat) (h1:(s.get! 0).toNat<240):((ch s 0:Nat):Int)=if s.size<3 then 0 else contL s 3 2048 2 1 ((s.get! 0).toNat-224):=by
 generalize hd0:(s.get! 0).toNat=c at*
 generalize hd1:(s.get! 1).toNat=d1
 generalize hd2:(s.get! 2).toNat=d2
 have e:=ch_split s (A:=False) (B:=False) (C:=3≤s.size∧128≤d1∧d1≤191∧128≤d2∧d2≤191∧(c≠224∨160≤d1)∧(c≠237∨d1≤159)) (D:=False)
  (by simp only [wi_iff,iff_false];omega) (by simp only [pr_iff,wi_iff,iff_false];omega) (by simp only [Bool.or_eq_true,pr_iff,tl1,wi_iff,Nat.zero_add,hd0,hd1,hd2];omega) (by simp only [Bool.or_eq_true,pr_iff,wi_iff,iff_false];omega)
 rw [e]
 clear e
 simp only [contL,hd1,hd2,or_if]
 rw [←if2 (A:=3≤s.size∧128≤d1∧d1≤191∧128≤d2∧d2≤191∧(c≠224∨160≤d1)∧(c≠237∨d1≤159)) (by omega)]
 simp only [if_false]
 split<;>rfl
theorem let4 {s:ByteArray} (h:0<s.size) (h0:240≤(s.get! 0).toNat) (h1:(s.get! 0).toNat<245):((ch s 0:Nat):Int)=if s.size<4 then 0 else contL s 4 65536 3 1 ((s.get! 0).toNat-240):=by
 generalize hd0:(s.get! 0).toNat=c at*
 generalize hd1:(s.get! 1).toNat=d1
 generalize hd2:(s.get! 2).toNat=d2
 generalize hd3:(s.get! 3).toNat=d3
 have e:=ch_split s (A:=False) (B:=False) (C:=False) (D:=4≤s.size∧128≤d1∧d1≤191∧128≤d2∧d2≤191∧128≤d3∧d3≤191∧(c≠240∨144≤d1)∧(c≠244∨d1≤143))
  (by simp only [wi_iff,iff_false];omega) (by simp only [pr_iff,wi_iff,iff_false];omega) (by simp only [Bool.or_eq_true,pr_iff,wi_iff,iff_false];omega) (by simp only [Bool.or_eq_true,pr_iff,tl2,wi_iff,Nat.zero_add,hd0,hd1,hd2,hd3];omega)
 rw [e]
 clear e
 simp only [contL,hd1,hd2,hd3,or_if]
 rw [←if2 (A:=4≤s.size∧128≤d1∧d1≤191∧128≤d2∧d2≤191∧128≤d3∧d3≤191∧(c≠240∨144≤d1)∧(c≠244∨d1≤143)) (by omega)]
 simp only [if_false]
 split<;>rfl
theorem let0 {s:ByteArray} (hc:128≤(s.get! 0).toNat) (h0:(s.get! 0).toNat<194∨245≤(s.get! 0).toNat):ch s 0=0:=by
 have e:=ch_split s (A:=False) (B:=False) (C:=False) (D:=False)
  (by simp only [wi_iff,iff_false];omega) (by simp only [pr_iff,wi_iff,iff_false];omega) (by simp only [Bool.or_eq_true,pr_iff,wi_iff,iff_false];omega) (by simp only [Bool.or_eq_true,pr_iff,wi_iff,iff_false];omega)
 rw [e]
 simp
end Go.Proofs.Nu
namespace Go.Proofs.Nu
open Go Go.RowKit
theorem map_odd {l:List VT} (h:l.length%2≠0):mapT l=false:=by unfold mapT;simp [h]
theorem map_many {l:List VT} (h:2048<l.length):mapT l=false:=by
 unfold mapT
 have:¬l.length≤2048:=by omega
 simp [this]
theorem map_dup {l:List VT} (h0:l.length%2=0) {a p:Nat} (hp:p<a) {x y:VT} (hx:l[2*a]? =some x) (hy:l[2*p]? =some y) (e:eqT x y=true):mapT l=false:=by
 have e:=(eqT_iff x y).1 e
 subst e
 have hn:¬(keysOf l).Nodup:=fun h=>by
  have:=nodup_of_get.1 h p a x hp (by rw [keysOf_get l p h0];exact hy)
  rw [keysOf_get l a h0] at this
  exact this hx
 have:dupFree (keysOf l)=false:=by
  cases hd:dupFree (keysOf l) with
  |false=>rfl
  |true=>exact absurd ((dupFree_iff _).1 hd) hn
 unfold mapT
 rw [this];simp
theorem map_free {l:List VT} (h0:l.length%2=0) (h1:l.length≤2048) (h:∀ (p a:Nat) (x y:VT),p<a→l[2*a]? =some x→l[2*p]? =some y→eqT x y=false):mapT l=true:=by
 have hn:(keysOf l).Nodup:=nodup_of_get.2 fun p a x hp hx hy=>by
  rw [keysOf_get l p h0] at hx
  rw [keysOf_get l a h0] at hy
  have:=h p a x x hp hy hx
  rw [(eqT_iff x x).2 rfl] at this
  cases this
 unfold mapT
 rw [(dupFree_iff _).2 hn]
 simp [h0,h1]
def LAtP (P:Nat→Prop) (w:World):Nat→Value→List VT→Prop
 |0,_,_=>False
 |n+1,v,ts=>(ts=[]∧∃ p c,v= .slice p 0 c)∨
   ∃ b off c,v= .slice (some ⟨b,off,none⟩) ts.length c∧P b∧b<w.heap.size∧ts.length≤maxLen∧∀ i t,ts[i]? =some t→t.Fine∧∃ lv,At5 w b (off+i*5) t lv∧LAtP P w n lv t.list
section
variable {w w':World} {P Q:Nat→Prop}
theorem LAtP.heap (hz:w.heap.size≤w'.heap.size) (he:∀ b,P b→b<w.heap.size→w'.heap[b]? =w.heap[b]?):∀ {n:Nat} {v:Value} {ts:List VT},LAtP P w n v ts→LAtP P w' n v ts
 |0,_,_,h=>h
 |n+1,v,ts,h=>by
  rcases h with h|⟨b,off,c,h1,h2,h3,h4,h5⟩
  ·exact .inl h
  ·exact .inr ⟨b,off,c,h1,h2,by omega,h4,fun i t ht=>let ⟨hf,lv,ha,hl⟩:=h5 i t ht;⟨hf,lv,ha.heap (he b h2 h3),LAtP.heap hz he hl⟩⟩
theorem LAtP.weak (hPQ:∀ b,P b→b<w.heap.size→Q b):∀ {n:Nat} {v:Value} {ts:List VT},LAtP P w n v ts→LAtP Q w n v ts
 |0,_,_,h=>h
 |n+1,v,ts,h=>by
  rcases h with h|⟨b,off,c,h1,h2,h3,h4,h5⟩
  ·exact .inl h
  ·exact .inr ⟨b,off,c,h1,hPQ b h2 h3,h3,h4,fun i t ht=>let ⟨hf,lv,ha,hl⟩:=h5 i t ht;⟨hf,lv,ha,LAtP.weak hPQ hl⟩⟩
theorem LAtP.mono:∀ {n m:Nat} {v:Value} {ts:List VT},n≤m→LAtP P w n v ts→LAtP P w m v ts
 |0,_,_,_,_,h=>h.elim
 |n+1,0,_,_,hn,_=>by omega
 |n+1,m+1,v,ts,hn,h=>by
  rcases h with h|⟨b,off,c,h1,h2,h3,h4,h5⟩
  ·exact .inl h
  ·exact .inr ⟨b,off,c,h1,h2,h3,h4,fun i t ht=>let ⟨hf,lv,ha,hl⟩:=h5 i t ht;⟨hf,lv,ha,LAtP.mono (by omega) hl⟩⟩
theorem LAtP.lat:∀ {n:Nat} {v:Value} {ts:List VT},LAtP P w n v ts→LAt w.heap.size w n v ts
 |0,_,_,h=>h
 |n+1,v,ts,h=>by
  rcases h with h|⟨b,off,c,h1,h2,h3,h4,h5⟩
  ·exact .inl h
  ·exact .inr ⟨b,off,c,h1,h3,h4,fun i t ht=>let ⟨hf,lv,ha,hl⟩:=h5 i t ht;⟨hf,lv,ha,LAtP.lat hl⟩⟩
theorem LAt.latP {B:Nat} (hB:B≤w.heap.size):∀ {n:Nat} {v:Value} {ts:List VT},LAt B w n v ts→LAtP (· <B) w n v ts
 |0,_,_,h=>h
 |n+1,v,ts,h=>by
  rcases h with h|⟨b,off,c,h1,h2,h3,h4⟩
  ·exact .inl h
  ·exact .inr ⟨b,off,c,h1,h2,by omega,h3,fun i t ht=>let ⟨hf,lv,ha,hl⟩:=h4 i t ht;⟨hf,lv,ha,LAt.latP hB hl⟩⟩
theorem LAtP.slice {n:Nat} {v:Value} {ts:List VT} (h:LAtP P w n v ts):∃ p c,v= .slice p ts.length c:=h.lat.slice
theorem LAtP.below {n:Nat} {v:Value} {ts:List VT} (h:LAtP P w n v ts) (hb:Below w.heap.size w w'):LAtP P w' n v ts:=h.heap hb.size fun b _ hlt=>hb.block b hlt
theorem LAtP.nil (n:Nat) (p:Option Addr) (c:Nat):LAtP P w (n+1) (.slice p 0 c) []:= .inl ⟨rfl,p,c,rfl⟩
theorem lat_level:∀ {items:List (VT×Value)},(∀ x∈items,∃ M,LAtP P w M x.2 x.1.list)→∃ M,∀ x∈items,LAtP P w M x.2 x.1.list
 |[],_=>⟨0,fun x hx=>by cases hx⟩
 |a::r,h=>by
  obtain ⟨M,hM⟩:=h a List.mem_cons_self
  obtain ⟨K,hK⟩:=lat_level (items:=r) fun x hx=>h x (List.mem_cons_of_mem _ hx)
  refine ⟨max M K,fun x hx=>?_⟩
  rcases List.mem_cons.1 hx with rfl|hx
  ·exact hM.mono (by omega)
  ·exact (hK x hx).mono (by omega)
end
structure PRL (B:Nat) (T:TypeId) (P:Nat→Prop) (W:World) (items:List (VT×Value)) (v:Value) (w:World):Prop where
 below:Below B W w
 Bw:B≤w.heap.size
 row:w.ownsRow B T 5 v items.length (cellsL items)
 own:∀ x∈items,x.1.Fine∧∃ M,LAtP (fun b=>P b∧v.ownBlock≠some b) w M x.2 x.1.list
section
variable {B:Nat} {T:TypeId} {P:Nat→Prop} {W w w':World} {items:List (VT×Value)} {v v':Value}
theorem PRL.start (w:World):PRL w.heap.size T P w [] (.slice none 0 0) w:=
 ⟨Below.refl _ _,Nat.le_refl _,World.ownsRow_nil _ _ _ _,(fun x hx=>by cases hx)⟩
theorem PRL.rowBlk (h:PRL B T P W items v w) {b:Nat} (hb:v.ownBlock=some b):B≤b∧b<w.heap.size:=World.ownsRow.lt h.row b hb
theorem PRL.keep (h:PRL B T P W items v w) (hb:Below w.heap.size w w'):PRL B T P W items v w':=by
 have hg:w.grownBy w' none:=⟨hb.os,hb.tape,hb.output,hb.size,fun k hk _=>hb.block k hk⟩
 refine ⟨h.below.trans (hb.mono h.Bw),Nat.le_trans h.Bw hb.size,World.ownsRow.kept h.row hg ?_,fun x hx=>⟨(h.own x hx).1,let ⟨M,hM⟩:=(h.own x hx).2;⟨M,hM.below hb⟩⟩⟩
 cases v.ownBlock with
 |none=>exact .inl rfl
 |some b=>exact .inr (fun e=>by cases e)
theorem PRL.form (h:PRL B T P W items v w):∃ p c,v= .slice p items.length c:=by
 rcases h.row.2 with ⟨rfl,h0⟩|⟨g,c,_,rfl,_⟩
 ·exact ⟨none,0,by rw [h0]⟩
 ·exact ⟨_,c,rfl⟩
theorem PRL.away (h:PRL B T P W items v w) {P0:Nat→Prop} {lo n:Nat} {lv:Value} {ts:List VT} (hl:LAtP P0 w n lv ts) (hP:∀ b,P0 b→b<w.heap.size→P b∧(b<B∨lo≤b)) (hv:∀ b,v.ownBlock=some b→b<lo):LAtP (fun b=>P b∧v.ownBlock≠some b) w n lv ts:=
 hl.weak fun b hb hlt=>⟨(hP b hb hlt).1,fun e=>by have:=hv b e;have:=(h.rowBlk e).1;rcases (hP b hb hlt).2 with h|h<;>omega⟩
theorem PRL.push (h:PRL B T P W items v w) {x:VT×Value} {n:Nat} (hf:x.1.Fine) (ho:LAtP (fun b=>P b∧v.ownBlock≠some b) w n x.2 x.1.list)
 (hr:w'.ownsRow B T 5 v' (items.length+1) (cellsL items++x.1.cells x.2)) (hg:w.grownBy w' v.ownBlock) (hat:v'.ownBlock=v.ownBlock∨v'.ownBlock=some w.heap.size):PRL B T P W (items++[x]) v' w':=by
 have hx:cellsL (items++[x])=cellsL items++x.1.cells x.2:=by simp [cellsL]
 have hk:∀ {n:Nat} {lv:Value} {ts:List VT},LAtP (fun b=>P b∧v.ownBlock≠some b) w n lv ts→LAtP (fun b=>P b∧v'.ownBlock≠some b) w' n lv ts:=fun ho=>by
  have h1:=ho.weak (Q:=fun b=>(P b∧v.ownBlock≠some b)∧v'.ownBlock≠some b) fun b hb hlt=>⟨hb,by
   rcases hat with e|e
   ·rw [e];exact hb.2
   ·rw [e];intro e2;cases e2;omega⟩
  have h2:=h1.heap (w':=w') hg.size fun b hb hlt=>hg.block b hlt (fun e=>hb.1.2 e.symm)
  exact h2.weak fun b hb _=>⟨hb.1.1,hb.2⟩
 refine ⟨h.below.grown hg h.Bw fun k e=>(h.rowBlk e).1,Nat.le_trans h.Bw hg.size,by rw [hx,List.length_append];exact hr,fun y hy=>?_⟩
 rcases List.mem_append.1 hy with hy|hy
 ·obtain ⟨M,hM⟩:=(h.own y hy).2
  exact ⟨(h.own y hy).1,M,hk hM⟩
 ·rw [List.mem_singleton.1 hy];exact ⟨hf,n,hk ho⟩
theorem PRL.cut {p:Option Addr} {n c:Nat} (h:PRL B T P W items (.slice p n c) w) {m:Nat} (hm:m≤n):PRL B T P W (items.take m) (.slice p m c) w:=by
 have hn:n=items.length:=by
  obtain ⟨p',c',e⟩:=h.form
  cases e;rfl
 have hr:=h.row
 rw [←hn] at hr
 have hr2:=ownsRow_cut hr hm
 rw [cellsL_take] at hr2
 have hl:(items.take m).length=m:=by rw [List.length_take];omega
 have e:(Value.slice p m c).ownBlock=(Value.slice p n c).ownBlock:=by cases p<;>rfl
 refine ⟨h.below,h.Bw,by rw [hl];exact hr2,fun x hx=>?_⟩
 rw [e]
 exact h.own x (List.mem_of_mem_take hx)
theorem PRL.at (h:PRL B T P W items v w) {i:Nat} {x:VT×Value} (hx:items[i]? =some x):∃ g c,v= .slice (some ⟨g,0,none⟩) items.length c∧At5 w g (i*5) x.1 x.2∧B≤g∧g<w.heap.size:=by
 have hi:=(List.getElem?_eq_some_iff.1 hx).1
 rcases h.row.2 with ⟨rfl,h0⟩|⟨g,cap,cur,rfl,hb,hg,hnc,hcm,hcs,htk⟩
 ·omega
 ·have k:∀ j u,j<5→(x.1.cells x.2)[j]? =some u→w.cell? ⟨g,i*5+j,none⟩=some u:=fun j u hj hu=>by
   have:=cellsL_at hx j hj
   rw [←htk,List.getElem?_take_of_lt (by omega),Array.getElem?_toList,hu] at this
   unfold World.cell?
   rw [hg]
   simpa using this
  exact ⟨g,cap,rfl,⟨k 0 _ (by omega) rfl,k 1 _ (by omega) rfl,k 2 _ (by omega) rfl,k 3 _ (by omega) rfl,k 4 _ (by omega) rfl⟩,hb,(Array.getElem?_eq_some_iff.1 hg).1⟩
theorem PRL.lat (h:PRL B T P W items v w) (hP:∀ b,B≤b→P b) (hm:items.length≤maxLen):∃ M,LAtP P w M v (items.map (·.1)):=by
 obtain ⟨M,hM⟩:=lat_level fun x hx=>let ⟨M,hM⟩:=(h.own x hx).2;⟨M,hM.weak (Q:=P) fun b hb _=>hb.1⟩
 refine ⟨M+1,?_⟩
 cases items with
 |nil=>
  obtain ⟨p,c,rfl⟩:=h.form
  exact .inl ⟨rfl,p,c,rfl⟩
 |cons a r=>
  obtain ⟨g,c,rfl, -,hg1,hg2⟩:=h.at (i:=0) (x:=a) rfl
  refine .inr ⟨g,0,c,by rw [List.length_map],hP g hg1,hg2,by rw [List.length_map];exact hm,fun i t ht=>?_⟩
  rw [List.getElem?_map] at ht
  obtain ⟨x,hx,rfl⟩:=Option.map_eq_some_iff.1 ht
  obtain ⟨g',c',e,ha, -, -⟩:=h.at hx
  cases e
  exact ⟨(h.own x (List.mem_of_getElem? hx)).1,x.2,by rw [Nat.zero_add];exact ha,hM x (List.mem_of_getElem? hx)⟩
theorem PRL.packed {T2:TypeId} {b:Nat} {vs:List Value} {k:Int} {cs:Array Value} {X:World} (h:PRL B T P W items v w) (hP:∀ b',B≤b'→P b') (hb:¬P b) (hm:items.length≤maxLen) (hk:0≤k∧k≤120)
 (hcs:cs= #[.int .i64 5,.int .u64 k,.string empt,.slice none 0 0,.int .i64 0,.int .i64 21,.int .u64 0,.string empt,v,.int .i64 0]) (hX:(w.alloc (.cells cs T2)).setCells b 0 vs=X):
 ∃ M,LAtP P X M (.slice (some ⟨w.heap.size,0,none⟩) 2 2) [.mk 5 k empt 0 [],.mk 21 0 empt 0 (items.map (·.1))]:=by
 obtain ⟨M,hM⟩:=h.lat hP hm
 have hPw:=hP _ h.Bw
 have hne:w.heap.size≠b:=fun e=>hb (e▸hPw)
 have h1:(w.alloc (.cells cs T2)).heap[w.heap.size]? =some (.cells cs T2 (0,0)):=heap_alloc_new _ _
 have hz1:(w.alloc (.cells cs T2)).heap.size=w.heap.size+1:=heap_alloc_size _ _
 have hzX:X.heap.size=w.heap.size+1:=by rw [←hX,setCells_sz];exact hz1
 have h2:X.heap[w.heap.size]? =some (.cells cs T2 (0,0)):=by rw [←hX,setCells_other hne];exact h1
 have hc:∀ j u,cs[j]? =some u→X.cell? ⟨w.heap.size,j,none⟩=some u:=fun j u hu=>by
  unfold World.cell?
  rw [h2]
  simpa using hu
 have hl:LAtP P X M v (items.map (·.1)):=by
  have hbl:Below w.heap.size w (w.alloc (.cells cs T2)):=(Below.refl _ _).alloc (Nat.le_refl _) _
  rw [←hX]
  exact (hM.below hbl).heap (by rw [setCells_sz];exact Nat.le_refl _) fun b' hb' _=>setCells_other (fun e=>hb (by rw [←e];exact hb')) _ _
 subst hcs
 refine ⟨M+2,.inr ⟨w.heap.size,0,2,rfl,hPw,by omega,(by show 2≤maxLen;decide),fun i t ht=>?_⟩⟩
 match i,ht with
 |0,ht=>
  cases ht
  exact ⟨⟨by show _≤(5:Int);omega,by show (5:Int)≤_;omega,hk.1,by show k≤_;omega,by show _≤(0:Int);omega,by show (0:Int)≤_;omega,by show empt.size≤_;decide⟩,.slice none 0 0,⟨hc 0 _ rfl,hc 1 _ rfl,hc 2 _ rfl,hc 3 _ rfl,hc 4 _ rfl⟩,LAtP.nil _ _ _⟩
 |1,ht=>
  cases ht
  exact ⟨⟨by show _≤(21:Int);omega,by show (21:Int)≤_;omega,by show (0:Int)≤0;omega,by show (0:Int)≤_;omega,by show _≤(0:Int);omega,by show (0:Int)≤_;omega,by show empt.size≤_;decide⟩,v,⟨hc 5 _ rfl,hc 6 _ rfl,hc 7 _ rfl,hc 8 _ rfl,hc 9 _ rfl⟩,hl.mono (by omega)⟩
 |i+2,ht=>simp at ht
theorem zip_takes {rd:Rd} {fs:List FT} {l:List VT} {i:Nat} {f:FT} {v:VT} (hf:fs[i]? =some f) (hv:l[i]? =some v) {items:List (VT×Value)} (h:items.map (·.1)=(List.zipWith (itemP rd) fs l).take i) {x:VT×Value} (hx:x.1=itemP rd f v):(items++[x]).map (·.1)=(List.zipWith (itemP rd) fs l).take (i+1):=by
 rw [List.take_add_one,zip_get hf hv,←h,List.map_append,←hx];rfl
theorem PRL.cap {p:Option Addr} {n c:Nat} (h:PRL B T P W items (.slice p n c) w):n≤c:=by
 have hn:n=items.length:=by
  obtain ⟨p',c',e⟩:=h.form
  cases e;rfl
 rcases h.row.2 with ⟨e,h0⟩|⟨g,cap,cur,e,hb,hg,hnc,hcm,hcs,htk⟩
 ·omega
 ·cases e;omega
theorem PRL.aside (h:PRL B T P W items v w) {r:Nat} (hg:w.grownBy w' (some r)) (hr:r<B) (hP:¬P r):PRL B T P w' items v w':=by
 refine ⟨Below.refl _ _,Nat.le_trans h.Bw hg.size,World.ownsRow.kept h.row hg ?_,fun x hx=>⟨(h.own x hx).1,let ⟨M,hM⟩:=(h.own x hx).2;⟨M,hM.heap hg.size fun b hb hlt=>hg.block b hlt fun e=>?_⟩⟩⟩
 ·cases hv:v.ownBlock with
  |none=>exact .inl rfl
  |some b=>
   refine .inr (fun e=>?_)
   cases e
   have:=(h.rowBlk hv).1
   omega
 ·cases e
  exact hP hb.1
theorem PRL.here (h:PRL B T P W items v w):PRL B T P w items v w:=⟨Below.refl _ _,h.Bw,h.row,h.own⟩
end
def GoodL (n:Nat) (fs:List FT) (l:List VT):Prop:=∀ (j:Nat) (f:FT) (v:VT),fs[j]? =some f→l[j]? =some v→checkT v 1=0∧(v.kind≠0→∃ y,readF n f v= .ok y)∧(f.type=102→v.kind≠0→wantedT f v=true)
def takeF (n:Nat) (f:FT) (v:VT):VT:=if f.type=102∧v.kind≠0 then okV (readF n f v) else v
theorem itemP_take {n:Nat} {f:FT} (hg:fieldGood f=true) {v:VT} (hv:checkT v 1=0) (hr:v.kind≠0→∃ y,readF n f v= .ok y):itemP (readF n) f v=if eqT (takeF n f v) f.dflt=true then zeroT else takeF n f v:=by
 have h:=item_eq (readQ n) hg hv hr
 have e:takeR (readR n) f v=takeF n f v:=by
  unfold takeR takeF
  by_cases hc:f.type=102∧v.kind≠0
  ·rw [if_pos hc,if_pos hc]
   obtain ⟨y,hy⟩:=hr hc.2
   rw [readQ n f v hv,hy];rfl
  ·rw [if_neg hc,if_neg hc]
 rw [←h]
 unfold itemR
 rw [e]
def unR (n:Nat) (v:VT):Except (Nat×Int) (Int×List VT):=if checkT v 1≠0 then .error (0,checkT v 1) else unpackF n v
theorem unR_ok {n:Nat} {v:VT} {a:Int×List VT} (h:unR n v= .ok a):checkT v 1=0∧unpackF n v= .ok a:=by
 unfold unR at h
 split at h
 ·cases h
 ·rename_i hc
  exact ⟨by simpa using hc,h⟩
theorem unF_good {n:Nat} {v:VT} {k:Int} {l:List VT} (hc:checkT v 1=0) (h:unpackF n v= .ok (k,l)) {fs:List FT} (hf:fieldsT k=some fs):GoodL n fs l∧l.length=fs.length∧nodesL l+13≤2*(nodes v+13):=by
 have hu:=unpack_ready (stayF n) h hf
 have hn:=unpack_nodes2 (mild2F n) h
 obtain ⟨fs',hr⟩:=unpackG_ok h
 have hf':=hr.fields
 rw [hf'] at hf
 cases hf
 refine ⟨fun j f y hj hy=>?_,hu.1,hn⟩
 obtain ⟨h1,h2⟩:=rec_read hc hr j f y hj hy
 refine ⟨h1,h2,fun ht hk=>?_⟩
 rcases hu.2 j f y hj hy with h|h|h
 ·exact absurd h hk
 ·have hd:=(good_comp (field_good hf' (List.mem_of_getElem? hj)) ht).1
  rw [hd] at h
  exact absurd (eqT_kind h) hk
 ·exact h
theorem unR_good {n:Nat} {v:VT} {k:Int} {l:List VT} (h:unR n v= .ok (k,l)):∃ fs,fieldsT k=some fs∧GoodL n fs l∧l.length=fs.length∧nodesL l+13≤2*(nodes v+13):=by
 obtain ⟨hc,h⟩:=unR_ok h
 obtain ⟨fs,hr⟩:=unpackG_ok h
 exact ⟨fs,hr.fields,unF_good hc h hr.fields⟩
def RUnAns (P:Nat→Prop) (a:Except (Nat×Int) (Int×List VT)) (w:World) (r:Ending) (w':World):Prop:=
 Below w.heap.size w w'∧match a with
  | .ok (k,l)=>∃ lv M,r= .returned (.tuple #[.agg #[.int .i64 k,lv],.int .i64 0,.int .i64 0])∧LAtP (fun b=>P b∨w.heap.size≤b) w' M lv l
  | .error (i,e)=>r= .returned (.tuple #[.agg #[.int .i64 0,.slice none 0 0],.int .i64 i,.int .i64 e])
def RItAns (P:Nat→Prop) (a:Except Int VT) (z:Value) (w:World) (r:Ending) (w':World):Prop:=
 Below w.heap.size w w'∧match a with
  | .ok y=>∃ lv M,r= .returned (.tuple #[y.agg lv,.int .i64 0])∧y.Fine∧LAtP (fun b=>P b∨w.heap.size≤b) w' M lv y.list
  | .error e=>r= .returned (.tuple #[z,.int .i64 e])
theorem good_fields {n:Nat} {fs:List FT} {l:List VT} (h:fieldsC (readF n) fs l=0):GoodL n fs l:=fun j f v hj hv=>by
 obtain ⟨h1,h2⟩:=fieldC_ok (fieldsC_get h j f v hj hv) (readF_err n f v)
 exact ⟨h1,fun hk=>(h2 hk).2,fun _ hk=>(h2 hk).1⟩
mutual
theorem wt_nodes:∀ (t:VT) (n:Nat),wt t n≤100000→n+nodes t≤wt t n
 | .mk k m s e l,n,h=>by
   rw [wt] at h ⊢
   have h1:=wts_nodes l _ h
   rw [nodes]
   omega
theorem wts_nodes:∀ (l:List VT) (n:Nat),wts l n≤100000→n+nodesL l≤wts l n
 |[],n,_=>by rw [wts,nodesL];omega
 |t::l,n,h=>by
  rw [wts] at h ⊢
  split at h
  ·rename_i hn
   rw [if_pos hn]
   have h1:=wts_nodes l _ h
   have h2:=wt_nodes t n (by have:=wts_ge l (wt t n);omega)
   rw [nodesL]
   omega
  ·omega
end
theorem small_nodes {l:List VT} (h:¬100000<wts l 0):nodesL l≤100000:=by
 have:=wts_nodes l 0 (by omega)
 omega
def patB (i:Nat):List Value:=[.int .i64 (-1000-(i:Int)),.int .u64 i,.string ⟨#[]⟩,.slice none 0 0,.int .i64 0]
theorem patB_len (i:Nat):(patB i).length=5:=rfl
theorem patB_one (i:Nat):∀ u∈patB i,u.oneCell'=true:=by
 intro u hu
 simp only [patB,List.mem_cons,List.not_mem_nil,or_false] at hu
 rcases hu with h|h|h|h|h<;>subst h<;>rfl
abbrev OB:=OwnF Nat
structure BInv (own0:OB) (W:World) (B:Nat) (vs gg:List Value) (N:Nat) (a:Nat→Nat) (R:List (Value×List Value)) (own:OB) (w:World):Prop where
 st:OStep patB own0 W own w none
 WB:W.heap.size≤B
 Bw:B≤w.heap.size
 rows:∀ x∈R,RowR B own w x.1 x.2
 vf:∀ (i:Nat) (v:Value),vs[i]? =some v→Fam patB own w i (a i) N v
 gf:∀ (t:Nat) (v:Value),gg[t]? =some v→Fam patB own w (t/12) (2*N) (2*N) v
section
variable {own0 own own':OB} {W w w':World} {B N:Nat} {vs gg:List Value} {a:Nat→Nat} {R:List (Value×List Value)} {row:Option Nat}
theorem BInv.step (h:BInv own0 W B vs gg N a R own w) (k:OStep patB own w own' w' row) (hr:∀ r,row=some r→B≤r):BInv own0 W B vs gg N a R own' w':=
 ⟨h.st.transRow k (fun r e=>Nat.le_trans h.WB (hr r e)),h.WB,Nat.le_trans h.Bw k.size,fun x hx=>(h.rows x hx).step k h.Bw hr,fun i v hv=>k.fam _ _ _ _ (h.vf i v hv),fun i v hv=>k.fam _ _ _ _ (h.gf i v hv)⟩
theorem BInv.dom (h:BInv own0 W B vs gg N a R own w):∀ b x,own b=some x→b<w.heap.size:=h.st.dom
theorem BInv.keep (h:BInv own0 W B vs gg N a R own w) (hb:Below w.heap.size w w'):BInv own0 W B vs gg N a R own w':=
 h.step (row:=none) (OStep.grown h.dom ⟨hb.os,hb.tape,hb.output,hb.size,fun k hk _=>hb.block k hk⟩ (fun _ e=>by cases e)) (fun _ e=>by cases e)
theorem BInv.alloc (h:BInv own0 W B vs gg N a R own w) (o:Obj):BInv own0 W B vs gg N a R own (w.alloc o):=h.keep ((Below.refl _ _).alloc (Nat.le_refl _) _)
theorem BInv.raise (h:BInv own0 W B vs gg N a R own w) {e:TypeId} {v:Value} {xs:List Value} (ho:w.ownsRow B e 1 v xs.length xs) (hn:∀ b,v.ownBlock=some b→own b=none):BInv own0 W w.heap.size vs gg N a ((v,xs)::R) own w:=
 ⟨h.st,Nat.le_trans h.WB h.Bw,Nat.le_refl _,fun x hx=>by
   rcases List.mem_cons.1 hx with rfl|hx
   ·exact RowR.of_row ho hn
   ·exact (h.rows x hx).raise h.Bw,h.vf,h.gf⟩
theorem BInv.store (h:BInv own0 W B vs gg N a R own w) {t k:Nat} {g off n c:Nat} (hv:vs[t]? =some (.slice (some ⟨g,off,none⟩) n c)) (hb:a t=k) (hk:k<n) {a':Nat→Nat} (h1:a' t=k+1) (h2:∀ s,s≠t→a' s=a s):
 BInv own0 W B vs gg N a' R own (w.setCells g (off+k*5) (patB t)):=by
 have hf:=h.vf t _ hv
 rcases hf with h0|⟨g',off',n',c',e,hown,hnc,hnN,hth,hm⟩
 ·cases h0
 cases e
 have hst:=OStep.write h.dom hown hth (k:=k) (by omega)
 have hI:=h.step hst (fun _ e=>by cases e)
 rw [patB_len] at hI
 refine ⟨hI.st,hI.WB,hI.Bw,hI.rows,fun s v hs=>?_,hI.gf⟩
 by_cases hst:s=t
 ·subst hst
  rw [hv] at hs
  cases hs
  rw [h1]
  have:=Fam.next (h.vf s _ hv) (by omega:a s<n)
  rw [hb,patB_len] at this
  exact this
 ·rw [h2 s hst];exact hI.vf s v hs
theorem BInv.full (h:BInv own0 W B vs gg N a R own w) {t k:Nat} {p:Option Addr} {n c:Nat} (hv:vs[t]? =some (.slice p n c)) (hb:a t=k) (hk:n≤k) {a':Nat→Nat} (h2:∀ s,s≠t→a' s=a s):BInv own0 W B vs gg N a' R own w:=by
 refine ⟨h.st,h.WB,h.Bw,h.rows,fun s v hs=>?_,h.gf⟩
 by_cases hst:s=t
 ·subst hst
  rw [hv] at hs
  cases hs
  exact (h.vf s _ hv).full (by omega)
 ·rw [h2 s hst];exact h.vf s v hs
theorem BInv.chg (h:BInv own0 W B vs gg N a R own w) {a':Nat→Nat} (h2:∀ s,s<vs.length→a' s=a s):BInv own0 W B vs gg N a' R own w:=
 ⟨h.st,h.WB,h.Bw,h.rows,fun s v hs=>by rw [h2 s (List.getElem?_eq_some_iff.1 hs).1];exact h.vf s v hs,h.gf⟩
theorem BInv.push (h:BInv own0 W B vs gg N a R own w) {x:Value} {t M:Nat} (hx:Fam patB own w t M M x) (hM:M≤2*N) (ht:gg.length/12=t):BInv own0 W B vs (gg++[x]) N a R own w:=
 ⟨h.st,h.WB,h.Bw,h.rows,h.vf,fun s v hs=>by
   rcases Nat.lt_or_ge s gg.length with hlt|hge
   ·rw [List.getElem?_append_left hlt] at hs;exact h.gf s v hs
   ·rw [List.getElem?_append_right hge] at hs
    have:s-gg.length=0:=by have:=(List.getElem?_eq_some_iff.1 hs).1;simp at this;omega
    rw [this] at hs
    simp at hs
    subst hs
    obtain rfl:s=gg.length:=by omega
    rw [ht]
    exact hx.to (Nat.le_refl _) hM _⟩
theorem BInv.at (h:BInv own0 W B vs gg N a R own w) {p:Option Addr} {n c:Nat} {xs:List Value} (hm:(Value.slice p n c,xs)∈R) {t:Nat} {x:Value} (hx:xs[t]? =some x):
 ∃ kb,p=some ⟨kb,0,none⟩∧w.cell? ⟨kb,t,none⟩=some x:=by
 obtain ⟨p',c',e,h2⟩:=h.rows _ hm
 simp only [Value.slice.injEq] at e
 obtain ⟨rfl,_,_⟩:=e
 obtain ⟨kb,e,_,_,hc⟩:=h2 t x hx
 exact ⟨kb,e,hc⟩
end
theorem markB_new (w:World) (T:TypeId) (i:Nat):∀ j u,(patB i)[j]? =some u→(w.alloc (.cells #[.int .i64 (-1000-(i:Int)),.int .u64 i,.string ⟨#[]⟩,.slice none 0 0,.int .i64 0] T)).cell? ((⟨w.heap.size,0,none⟩:Addr).add j)=some u:=fun j u hu=>by
 rw [Addr.add_mid,Nat.zero_add,World.cell?_alloc_new]
 simpa [patB] using hu
def GB (B:Nat) (e:TypeId) (own:OB) (w:World) (v:Value) (xs:List Value):Prop:=w.ownsRow B e 1 v xs.length xs∧∀ b,v.ownBlock=some b→own b=none
section
variable {own0 own own':OB} {W w w':World} {B N:Nat} {vs gg:List Value} {a:Nat→Nat} {R:List (Value×List Value)} {e:TypeId} {v v':Value} {xs:List Value}
theorem GB.new:GB B e own w (.slice none 0 0) []:=⟨World.ownsRow_nil _ _ _ _,fun b h=>by simp [Value.ownBlock] at h⟩
theorem GB.blk (h:GB B e own w v xs) {x:Nat} (hx:v.ownBlock=some x):B≤x∧x<w.heap.size∧own x=none:=⟨(World.ownsRow.lt h.1 x hx).1,(World.ownsRow.lt h.1 x hx).2,h.2 x hx⟩
theorem GB.step (h:GB B e own w v xs) (k:OStep patB own w own' w' none):GB B e own' w' v xs:=by
 refine ⟨?_,fun x hx=>(k.old x (h.blk hx).2.1).trans (h.2 x hx)⟩
 obtain ⟨hl,h1⟩:=h.1
 refine ⟨hl,?_⟩
 rcases h1 with h1|⟨g,cap,cur,rfl,hb,hg,r⟩
 ·exact .inl h1
 ·have hbk:=h.blk (x:=g) rfl
  exact .inr ⟨g,cap,cur,rfl,hb,(k.kept g hbk.2.1 hbk.2.2 (by simp)).trans hg,r⟩
theorem GB.keep (h:GB B e own w v xs) (hd:∀ b x,own b=some x→b<w.heap.size) (hb:Below w.heap.size w w'):GB B e own w' v xs:=
 h.step (OStep.grown hd ⟨hb.os,hb.tape,hb.output,hb.size,fun k hk _=>hb.block k hk⟩ (fun _ e=>by cases e))
theorem GB.alloc (h:GB B e own w v xs) (hd:∀ b x,own b=some x→b<w.heap.size) (o:Obj):GB B e own (w.alloc o) v xs:=h.keep hd ((Below.refl _ _).alloc (Nat.le_refl _) _)
theorem GB.more (h:GB B e own w v xs) (hd:∀ b x,own b=some x→b<w.heap.size) {x:Value} (ho:w'.ownsRow B e 1 v' (xs.length+1) (xs++[x])) (hg:w.grownBy w' v.ownBlock) (hat:v'.ownBlock=v.ownBlock∨v'.ownBlock=some w.heap.size):
 GB B e own w' v' (xs++[x])∧OStep patB own w own w' v.ownBlock:=by
 refine ⟨⟨by simpa using ho,fun b hb=>?_⟩,OStep.grown hd hg fun k hk=>h.2 k hk⟩
 rcases hat with hat|hat
 ·exact h.2 b (hat▸hb)
 ·rw [hat] at hb
  cases hb
  cases hh:own w.heap.size with
  |none=>rfl
  |some x=>have:=hd _ _ hh;omega
theorem BInv.stepRow (h:BInv own0 W B vs gg N a R own w) (hr:GB B e own w v xs) (k:OStep patB own w own' w' v.ownBlock):BInv own0 W B vs gg N a R own' w':=h.step k fun _ hx=>(hr.blk hx).1
end
structure BookAt (T:TypeId) (w:World) (bb:Nat) (v:Value) (rows:List Value):Prop where
 box:∃ cs,cs=[v]∧Cells w bb 0 cs∧w.there bb 0 1
 row:w.ownsRow (bb+1) T 1 v rows.length rows
 lt:bb<w.heap.size
theorem BookAt.below {T:TypeId} {w w':World} {bb:Nat} {v:Value} {rows:List Value} (h:BookAt T w bb v rows) (hb:Below w.heap.size w w'):BookAt T w' bb v rows:=by
 obtain ⟨cs,rfl,h1,h2⟩:=h.box
 have he:=hb.block bb h.lt
 have hg:w.grownBy w' none:=⟨hb.os,hb.tape,hb.output,hb.size,fun k hk _=>hb.block k hk⟩
 refine ⟨⟨_,rfl,fun j u hu=>(World.cell?_of_block (a:=⟨bb,_,none⟩) he).trans (h1 j u hu),there_heap h2 he⟩,World.ownsRow.kept h.row hg ?_,Nat.lt_of_lt_of_le h.lt hb.size⟩
 cases v.ownBlock with
 |none=>exact .inl rfl
 |some b=>exact .inr (fun e=>by cases e)
theorem book_door {T:TypeId} {w:World} {bb:Nat} {v:Value} {rows:List Value} {N S:Nat} (h:BookAt T w bb v rows) (hr:∀ u∈rows,u= .slice none 0 0∨∃ g k c,u= .slice (some ⟨g,0,none⟩) k c∧g<w.heap.size∧k≤c∧w.there g 0 (c*5)) (hb:Blk S bb rows) (ha:ApartV rows) (hN:∀ u∈rows,∀ p n c,u= .slice p n c→n≤N):
 ∃ own0:OB,BInv own0 w w.heap.size rows [] N (fun _=>0) [(v,rows),(.slice (some ⟨bb,0,none⟩) 1 1,[v])] own0 w∧∀ b,b<S→own0 b=none:=by
 obtain ⟨own,h1,h2⟩:=own_of patB w (fun i:Nat=>rows[i]?) (fun f g x y b hf hg hx hy=>by
  rcases Nat.lt_trichotomy f g with hlt|rfl|hlt
  ·exfalso
   have:=List.pairwise_iff_getElem.1 ha f g (List.getElem?_eq_some_iff.1 hf).1 (List.getElem?_eq_some_iff.1 hg).1 hlt b (by rw [(List.getElem?_eq_some_iff.1 hf).2];exact hx)
   rw [(List.getElem?_eq_some_iff.1 hg).2] at this
   exact this hy
  ·rfl
  ·exfalso
   have:=List.pairwise_iff_getElem.1 ha g f (List.getElem?_eq_some_iff.1 hg).1 (List.getElem?_eq_some_iff.1 hf).1 hlt b (by rw [(List.getElem?_eq_some_iff.1 hg).2];exact hy)
   rw [(List.getElem?_eq_some_iff.1 hf).2] at this
   exact this hx) (fun f u hu=>by
  rcases hr u (List.mem_of_getElem? hu) with h|⟨g,k,c,e,h3,h4,h5⟩
  ·exact .inl h
  ·exact .inr ⟨g,0,k,c,e,h3,h4,by rw [patB_len];exact h5⟩)
 have hno:∀ b,bb≤b→own b=none:=fun b hle=>by
  cases ho:own b with
  |none=>rfl
  |some x=>
   obtain ⟨_,u,hu,hub⟩:=h1 b x ho
   have:=(hb u (List.mem_of_getElem? hu) b hub).2
   omega
 obtain ⟨cs,rfl,hbx,_⟩:=h.box
 refine ⟨own,⟨OStep.refl fun b x hx=>(h1 b x hx).1,Nat.le_refl _,Nat.le_refl _,fun x hx=>?_,fun i u hu=>h2 i u N hu (fun p n c e=>hN u (List.mem_of_getElem? hu) p n c e),fun t u hu=>by simp at hu⟩,fun b hlt=>by
  cases ho:own b with
  |none=>rfl
  |some x=>
   obtain ⟨_,u,hu,hub⟩:=h1 b x ho
   have:=(hb u (List.mem_of_getElem? hu) b hub).1
   omega⟩
 simp only [List.mem_cons,List.not_mem_nil,or_false] at hx
 rcases hx with rfl|rfl
 ·exact RowR.of_row h.row fun b e=>hno b (by have:=(World.ownsRow.lt h.row b e).1;omega)
 ·refine ⟨_,1,rfl,fun t x hx=>⟨bb,rfl,h.lt,hno bb (Nat.le_refl _),?_⟩⟩
  have:=hbx t x hx
  rwa [Nat.zero_add] at this
end Go.Proofs.Nu
