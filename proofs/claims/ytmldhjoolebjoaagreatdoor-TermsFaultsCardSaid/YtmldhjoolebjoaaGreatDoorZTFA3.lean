/-
  The texts CeB of this claim, one behind the other.
-/
import Derived.Test.YtmldhjoolebjoaaGreatDoorZTFA2
import Derived.Laws.BytesArg
import Derived.WalkLawsBesides
import Derived.WalkSpells
namespace Go.CE
open Go Go.RowKit
variable [aa]
variable {P:Program} {G:Nat}
omit [aa] in
theorem fD {α:Type} {s:Sem α} {a:α} (h:di P s=some a) (w:World):s.run P w= .ok a w:=by
 induction s with
 |pure b=>simp only [di,Option.some.injEq] at h;subst h;rfl
 |program k ih=>exact ih P h
 |mark m k ih=>exact ih h
 |_=>simp [di] at h
def ak (tmps:Array Value):Operand→Value
 | .tmp t=>tmps.getD t undef
 | .const v=>v
 | .global g=> .pointer (some ⟨g,0,none⟩)
 | .func f=> .func (.func f) #[] #[]
section
variable {h:H} {ρ:Ren} {w:World} {tm:TV} {tmps:Array Value}
theorem av (hr:HR G h ρ w) (ht:TR h.nx ρ tm tmps) {x:Operand} {v:Value} (hv:ax G tm x=some v):VR h.nx ρ v (ak tmps x):=by
 cases x with
 |tmp t=>
  obtain ⟨v',h1,h2⟩:=ht t v hv
  have:ak tmps (.tmp t)=v':=by simp [ak,h1]
  rw [this];exact h2
 |const c=>
  simp only [ax] at hv
  cases hc:af 6 c with
  |true=>rw [hc] at hv;cases hv;exact eO 6 _ hc
  |false=>rw [hc] at hv;cases hv
 |global g=>
  simp only [ax] at hv
  cases hc:Nat.blt g G with
  |true=>
   rw [hc] at hv;cases hv
   have hg:g<G:=Nat.le_of_ble_eq_true hc
   obtain ⟨e1,e2⟩:=hr.jI g hg
   have:=VR.ptr (n:=h.nx) (ρ:=ρ) g 0 ⟨Nat.lt_of_lt_of_le hg hr.bound,by rw [e2];exact Nat.zero_le _⟩
   rw [e1,e2] at this
   exact this
  |false=>rw [hc] at hv;cases hv
 |func f=>simp only [ax,Option.some.injEq] at hv;subst hv;exact VR.func' L2.nil L2.nil
theorem jm (hr:HR G h ρ w) (ht:TR h.nx ρ tm tmps):∀ (l:List Operand) (vs:List Value),dY G tm l=some vs→V2 h.nx ρ vs (l.map (ak tmps)):=by
 intro l
 induction l with
 |nil=>intro vs hv;simp only [dY,Option.some.injEq] at hv;subst hv;exact L2.nil
 |cons x l ih=>
  intro vs hv
  simp only [dY] at hv
  cases h1:ax G tm x with
  |none=>rw [h1] at hv;cases hv
  |some a=>
   cases h2:dY G tm l with
   |none=>rw [h1,h2] at hv;cases hv
   |some b=>rw [h1,h2] at hv;cases hv;exact L2.cons (av hr ht h1) (ih b h2)
end
omit [aa] in
theorem bI {t:TypeId} {n:Nat} (h:dU P t=some n) (w:World):(sizeOf t).run P w= .ok n w:=by
 unfold dU at h
 cases hi:P.info? t with
 |none=>rw [hi] at h;cases h
 |some i=>rw [hi] at h;cases h;simp [sizeOf,typeInfo,hi]
omit [aa] in
theorem j4 {t:TypeId} {z:Value} (h:mI P t=some z) (w:World):(zeroValue t).run P w= .ok z w∧af 6 z=true:=by
 unfold mI at h
 cases hi:P.info? t with
 |none=>rw [hi] at h;cases h
 |some i=>
  rw [hi] at h
  simp only [Option.bind_some] at h
  cases hz:i.zero with
  |none=>rw [hz] at h;cases h
  |some v=>
   rw [hz] at h
   cases ha:af 6 v with
   |true=>simp only [ha,cond_true,Option.some.injEq] at h;subst h;exact ⟨by simp [zeroValue,typeInfo,hi,hz],ha⟩
   |false=>simp [ha] at h
omit [aa] in
theorem q8 {t:TypeId} {b:Bool} (h:tY P t=some b) (w:World):(isAgg t).run P w= .ok b w:=by
 unfold tY at h
 cases hu:P.underlying t with
 |none=>rw [hu] at h;cases h
 |some d=>rw [hu] at h;cases d<;>simp_all [isAgg,run_underlying hu]
omit [aa] in
theorem Dt {n:Nat} {l m:List Value} (h:takeN n l=some m):m=l.take n∧m.length=n:=by
 unfold takeN at h
 cases hb:Nat.beq (l.take n).length n with
 |true=>simp only [hb,cond_true,Option.some.injEq] at h;subst h;exact ⟨rfl,Nat.eq_of_beq_eq_true hb⟩
 |false=>simp only [hb,cond_false,reduceCtorEq] at h
omit [aa] in
theorem nX {h:H} {i:Nat} {cs:List Value} (hc:h.cells i=some cs):h.hp.get i=some (.cells cs):=by
 unfold H.cells at hc
 split at hc
 ·rename_i c e;cases hc;exact e
 ·cases hc
omit [aa] in
theorem IC {w:World} {b o:Nat} {c:Array Value} {e:TypeId} {fz:Nat×Nat} (h:w.heap[b]? =some (.cells c e fz)):w.cell? ⟨b,o,none⟩=c[o]? :=by
 simp [World.cell?,h]
omit [aa] in
theorem jb (b o j:Nat):(⟨b,o,none⟩:Addr).add j=⟨b,o+j,none⟩:=by
 unfold Addr.add;split
 ·rename_i e;subst e;rfl
 ·rfl
theorem yC {h:H} {ρ:Ren} {w:World} (hr:HR G h ρ w) {i k n:Nat} {l:List Value} (hd:h.read i k n=some l):
 In h.nx ρ i∧∃ l',V2 h.nx ρ l l'∧l.length=n∧l'.length=n∧(∀ j v,l'[j]? =some v→w.cell? ⟨(ρ i).1,(ρ i).2.1+k+j,none⟩=some v)∧
  (loadCells ⟨(ρ i).1,(ρ i).2.1+k,none⟩ n).run P w= .ok l'.toArray w:=by
 unfold H.read at hd
 cases hc:h.cells i with
 |none=>rw [hc] at hd;cases hd
 |some cs=>
  rw [hc] at hd
  obtain ⟨rfl,hn⟩:=Dt hd
  obtain ⟨hi,ob,ji,iD⟩:=hr.obj i _ (nX hc)
  cases iD with
  |cells _ c e fz hz hl hv hf=>
   refine ⟨hi,?_⟩
   have hex:∀ j,j<n→∃ y,c[(ρ i).2.1+k+j]? =some y∧∀ x,(List.take n (List.drop k cs))[j]? =some x→VR h.nx ρ x y:=by
    intro j hj
    have hj':j<(List.take n (List.drop k cs)).length:=by rw [hn];exact hj
    have e1:(List.take n (List.drop k cs))[j]? =some (List.take n (List.drop k cs))[j]:=List.getElem?_eq_getElem hj'
    have e2:cs[k+j]? =some (List.take n (List.drop k cs))[j]:=by
     rw [←e1,List.getElem?_take,if_pos hj,List.getElem?_drop]
    obtain ⟨y,h1,h2⟩:=hv _ _ e2
    refine ⟨y,by rw [Nat.add_assoc];exact h1,fun x hx=>?_⟩
    rw [e1] at hx;cases hx;exact h2
   let l':List Value:=(List.range n).map fun j=>(c[(ρ i).2.1+k+j]?).getD undef
   have hlen:l'.length=n:=by simp [l']
   have hget:∀ j,j<n→l'[j]? =some ((c[(ρ i).2.1+k+j]?).getD undef):=by
    intro j hj;simp [l',hj]
   have hcell:∀ j v,l'[j]? =some v→w.cell? ⟨(ρ i).1,(ρ i).2.1+k+j,none⟩=some v:=by
    intro j v hv'
    have hj:j<n:=by rw [←hlen];exact (List.getElem?_eq_some_iff.1 hv').1
    obtain ⟨y,h1,_⟩:=hex j hj
    rw [hget j hj,h1] at hv';cases hv'
    rw [IC ji];exact h1
   refine ⟨l',⟨by rw [hn,hlen],?_⟩,hn,hlen,hcell,?_⟩
   ·intro j x y hx hy
    have hj:j<n:=by rw [←hn];exact (List.getElem?_eq_some_iff.1 hx).1
    obtain ⟨z,h1,h2⟩:=hex j hj
    rw [hget j hj,h1] at hy;cases hy
    exact h2 x hx
   ·have:=run_loadCells_list (P:=P) w ⟨(ρ i).1,(ρ i).2.1+k,none⟩ l' (fun j v hj=>by rw [jb];exact hcell j v hj)
    rwa [hlen] at this
theorem K9 {h:H} {ρ:Ren} {w:World} (hr:HR G h ρ w) {t:TypeId} {i k:Nat} {v:Value} (hl:h.yj P t i k=some v):
 In h.nx ρ i∧∃ v',VR h.nx ρ v v'∧(loadVar t ⟨(ρ i).1,(ρ i).2.1+k,none⟩).run P w= .ok v' w:=by
 unfold H.yj at hl
 split at hl
 ·rename_i n ha hs
  cases hd:h.read i k n with
  |none=>rw [hd] at hl;cases hl
  |some l=>
   rw [hd] at hl;cases hl
   obtain ⟨hi,l',h1,_,_,_,h2⟩:=yC (P:=P) hr hd
   exact ⟨hi,.agg l'.toArray,VR.agg' h1,by simp [loadVar,q8 ha,bI hs,h2]⟩
 ·rename_i ha
  cases hd:h.read i k 1 with
  |none=>rw [hd] at hl;cases hl
  |some l=>
   rw [hd] at hl
   match l,hl with
   |[x],hl=>
    simp only [Option.some.injEq] at hl;subst hl
    obtain ⟨hi,l',h1,_,h3,h4,_⟩:=yC (P:=P) hr hd
    obtain ⟨y,t',rfl,hxy,_⟩:=h1.aL
    have hc:=h4 0 y rfl
    refine ⟨hi,y,hxy,?_⟩
    rw [Nat.add_zero] at hc
    simp [loadVar,q8 ha,hc]
 ·cases hl
theorem La {n:Nat} {ρ:Ren} {cs:List Value} {cs':Array Value} (hc:V2 n ρ cs cs'.toList) {t:TypeId} {off:Nat} {v:Value} (hl:Gs P t cs off=some v) (w:World):
 ∃ v',VR n ρ v v'∧(part t cs' off).run P w= .ok v' w:=by
 unfold Gs at hl
 split at hl
 ·rename_i m ha hs
  cases hd:takeN m (cs.drop off) with
  |none=>rw [hd] at hl;cases hl
  |some l=>
   rw [hd] at hl;cases hl
   obtain ⟨rfl,hn⟩:=Dt hd
   refine ⟨.agg (cs'.extract off (off+m)),VR.agg' ?_,by simp [part,q8 ha,bI hs]⟩
   have:(cs'.extract off (off+m)).toList=(cs'.toList.drop off).take m:=by
    rw [Array.toList_extract,List.extract_eq_take_drop];simp
   rw [this]
   exact (hc.drop off).take m
 ·rename_i ha
  obtain ⟨y,h1,h2⟩:=hc.get hl
  refine ⟨y,h2,?_⟩
  have:cs'[off]? =some y:=by simpa using h1
  simp [part,q8 ha,this]
 ·cases hl
end Go.CE
namespace Go.CE
open Go Go.RowKit
variable [aa]
variable {P:Program} {G:Nat} {h:H} {ρ:Ren} {w:World} {tm:TV} {tmps:Array Value}
def abJ (n:Nat) (ρ:Ren) (a b:Nat×Value):Prop:=a.1=b.1∧VR n ρ a.2 b.2
theorem OG {n:Nat} {ρ:Ren} (off:Nat):∀ (xs ys:List (Value×Nat)),L2 (fun a b=>VR n ρ a.1 b.1∧a.2=b.2) xs ys→∀ (c d:Array Value),V2 n ρ c.toList d.toList→
 V2 n ρ (xs.foldl (fun cs x=>cs.setIfInBounds (off+x.2) x.1) c).toList (ys.foldl (fun cs x=>cs.setIfInBounds (off+x.2) x.1) d).toList:=by
 intro xs
 induction xs with
 |nil=>intro ys hl c d hc;rw [hl.bZ];exact hc
 |cons x xs ih=>
  intro ys hl c d hc
  obtain ⟨y,t,rfl,hxy,ht⟩:=hl.aL
  simp only [List.foldl_cons]
  refine ih t ht _ _ ?_
  rw [Array.toList_setIfInBounds,Array.toList_setIfInBounds,←hxy.2]
  exact hc.set _ hxy.1
theorem Tj {n:Nat} {ρ:Ren}:∀ (xs ys:List Value) (k:Nat),V2 n ρ xs ys→L2 (fun a b=>VR n ρ a.1 b.1∧a.2=b.2) (xs.zipIdx k) (ys.zipIdx k):=by
 intro xs
 induction xs with
 |nil=>intro ys k hl;rw [hl.bZ];exact L2.nil
 |cons x xs ih=>
  intro ys k hl
  obtain ⟨y,t,rfl,hxy,ht⟩:=hl.aL
  exact L2.cons ⟨hxy,rfl⟩ (ih t (k+1) ht)
theorem IE {n:Nat} {ρ:Ren} (place:Nat→Option (Nat×Nat)):∀ (l m:List (Nat×Value)),L2 (abJ n ρ) l m→∀ (c d r:Array Value),V2 n ρ c.toList d.toList→
 Instr.fill place c l=some r→∃ r',Instr.fill place d m=some r'∧V2 n ρ r.toList r'.toList:=by
 intro l
 induction l with
 |nil=>intro m hl c d r hc hf;rw [hl.bZ];simp only [Instr.fill,Option.some.injEq] at hf ⊢;subst hf;exact ⟨d,rfl,hc⟩
 |cons x l ih=>
  intro m hl c d r hc hf
  obtain ⟨⟨i,v'⟩,t,rfl,hxy,ht⟩:=hl.aL
  obtain ⟨i0,v⟩:=x
  obtain ⟨rfl,hv⟩:=hxy
  simp only [Instr.fill] at hf ⊢
  cases hp:place i0 with
  |none=>rw [hp] at hf;cases hf
  |some os=>
   obtain ⟨off,size⟩:=os
   rw [hp] at hf
   have hs:=hv.Dq
   have hcd:d.size=c.size:=by have:=hc.1;simpa using this.symm
   simp only [hs,hcd] at hf ⊢
   split at hf
   ·cases hf
   ·rename_i hcond
    rw [if_neg hcond]
    refine ih t ht _ _ r ?_ hf
    have:=OG (n:=n) (ρ:=ρ) off v.cells.zipIdx.toList v'.cells.zipIdx.toList (by rw [Array.toList_zipIdx,Array.toList_zipIdx];exact Tj _ _ 0 hv.cells) c d hc
    rwa [Array.foldl_toList,Array.foldl_toList] at this
theorem OH {n:Nat} {ρ:Ren}:∀ (parts:List (Nat×Operand)) (vs:List Value),V2 n ρ vs ((parts.map (·.2)).map (ak tmps))→
 L2 (abJ n ρ) ((parts.map (·.1)).zip vs) (parts.map fun x=>(x.1,ak tmps x.2)):=by
 intro parts
 induction parts with
 |nil=>intro vs hv;exact L2.nil
 |cons p parts ih=>
  intro vs hv
  cases vs with
  |nil=>have:=hv.1;simp at this
  |cons v vs=>exact L2.cons ⟨rfl,hv.head⟩ (ih vs hv.tail)
omit [aa] in
theorem OI (w:World):∀ (fs:List Field) (ps:List (Nat×Nat)),mP P fs=some ps→
 (fs.mapM fun f=>do pure (f.offset,←sizeOf f.type):Sem (List (Nat×Nat))).run P w= .ok ps w:=by
 intro fs
 induction fs with
 |nil=>intro ps hp;simp only [mP,Option.some.injEq] at hp;subst hp;rfl
 |cons f fs ih=>
  intro ps hp
  simp only [mP] at hp
  cases hs:dU P f.type with
  |none=>rw [hs] at hp;cases hp
  |some s=>
   cases hl:mP P fs with
   |none=>rw [hs,hl] at hp;cases hp
   |some l=>
    rw [hs,hl] at hp;cases hp
    have h1:=ih l hl
    simp only [List.mapM_cons,Sem.run_bind,bI hs,Result.andThen,Sem.run_pure,h1]
section
variable (hr:HR G h ρ w) (ht:TR h.nx ρ tm tmps)
include hr ht
theorem WE {c a b:Operand} {v:Value} (hv:K4 G tm c a b=some v):
 ∃ v',VR h.nx ρ v v'∧(do pure (.value (if ←asBool (ak tmps c) then ak tmps a else ak tmps b)):Sem Next).run P w= .ok (.value v') w:=by
 unfold K4 at hv
 split at hv
 ·rename_i hc
  have:=av hr ht hc
  generalize ak tmps c=c' at this;cases this
  exact ⟨_,av hr ht hv,by simp [asBool]⟩
 ·rename_i hc
  have:=av hr ht hc
  generalize ak tmps c=c' at this;cases this
  exact ⟨_,av hr ht hv,by simp [asBool]⟩
 ·cases hv
theorem Tk {t:TypeId} {parts:Array (Nat×Operand)} {v:Value} (hv:zP P G tm t parts=some v):
 ∃ v',VR h.nx ρ v v'∧(Instr.build t (parts.map fun x=>(x.1,ak tmps x.2))).run P w= .ok v' w:=by
 unfold zP at hv
 split at hv
 ·rename_i z fields vs hz hu hvs
  obtain ⟨hz1,hz2⟩:=j4 hz w
  have Z5:=jm hr ht _ _ hvs
  have WG:=OH (tmps:=tmps) parts.toList vs Z5
  cases hp:mP P fields.toList with
  |none=>rw [hp] at hv;cases hv
  |some places=>
   rw [hp] at hv
   simp only at hv
   cases hf:Instr.fill (fun i=>places[i]?) z.cells ((parts.toList.map (·.1)).zip vs) with
   |none=>rw [hf] at hv;cases hv
   |some r=>
    rw [hf] at hv;cases hv
    obtain ⟨r',h1,h2⟩:=IE _ _ _ WG z.cells z.cells r (eO 6 _ hz2).cells hf
    refine ⟨.agg r',VR.agg' h2,?_⟩
    have hm:(fields.mapM fun f=>do pure (f.offset,←sizeOf f.type):Sem (Array (Nat×Nat))).run P w= .ok places.toArray w:=by
     rw [Array.mapM_eq_mapM_toList]
     have:=OI w _ _ hp
     simp only [Sem.run_map,this,Result.andThen]
    have hl:(parts.map fun x=>(x.1,ak tmps x.2)).toList=parts.toList.map fun x=>(x.1,ak tmps x.2):=by simp
    have hpl:(fun i:Nat=>places.toArray[i]?)=fun i:Nat=>places[i]? :=by funext i;simp
    simp only [Instr.build,Sem.run_bind,hz1,Result.andThen,run_underlying hu,hm,hl,hpl,h1,Sem.run_pure]
 ·rename_i z len elem vs hz hu hvs
  obtain ⟨hz1,hz2⟩:=j4 hz w
  have Z5:=jm hr ht _ _ hvs
  have WG:=OH (tmps:=tmps) parts.toList vs Z5
  cases hp:dU P elem with
  |none=>rw [hp] at hv;cases hv
  |some size=>
   rw [hp] at hv
   simp only at hv
   cases hf:Instr.fill (fun i=>some (i*size,size)) z.cells ((parts.toList.map (·.1)).zip vs) with
   |none=>rw [hf] at hv;cases hv
   |some r=>
    rw [hf] at hv;cases hv
    obtain ⟨r',h1,h2⟩:=IE _ _ _ WG z.cells z.cells r (eO 6 _ hz2).cells hf
    refine ⟨.agg r',VR.agg' h2,?_⟩
    have hl:(parts.map fun x=>(x.1,ak tmps x.2)).toList=parts.toList.map fun x=>(x.1,ak tmps x.2):=by simp
    simp only [Instr.build,Sem.run_bind,hz1,Result.andThen,run_underlying hu,bI hp,hl,h1,Sem.run_pure]
 ·cases hv
theorem WH {t:TypeId} {x:Operand} {v:Value} (hv:Bi P G tm h t x=some v):
 ∃ v',VR h.nx ρ v v'∧(Instr.loadAt t (ak tmps x)).run P w= .ok v' w:=by
 unfold Bi at hv
 split at hv
 ·rename_i i k hx
  have:=av hr ht hx
  generalize ak tmps x=x' at this;cases this
  obtain ⟨_,v',h1,h2⟩:=K9 hr hv
  exact ⟨v',h1,by simp [Instr.loadAt,Instr.sureAddr,h2]⟩
 ·cases hv
theorem IG {x:Operand} {v:Value} (hv:qh G tm x=some v) (o:Oper) (ho:o.op= .nilCheck x):
 ∃ v',VR h.nx ρ v v'∧(execOp (ak tmps) o).run P w= .ok (.value v') w:=by
 unfold qh at hv
 split at hv
 ·rename_i a hx
  cases hv
  have:=av hr ht hx
  refine ⟨_,this,?_⟩
  simp only [execOp,ho]
  generalize ak tmps x=x' at this;cases this;rfl
 ·rename_i f a b hx
  cases hv
  have:=av hr ht hx
  refine ⟨_,this,?_⟩
  simp only [execOp,ho]
  generalize ak tmps x=x' at this;cases this;rfl
 ·rename_i t y hx
  cases hv
  have:=av hr ht hx
  refine ⟨_,this,?_⟩
  simp only [execOp,ho]
  generalize ak tmps x=x' at this;cases this;rfl
 ·cases hv
end
omit [aa] in
theorem WI {op:BinOp} {t:TypeId} {x y:Operand} {k:IntKind} {a b:Int} {v:Value} (hv:Dj op k a b=some v) (w:World):
 (do eqGuard op t x y (.int k a) (.int k b);binOp op t (.int k a) (.int k b):Sem Value).run P w= .ok v w:=by
 cases op<;>simp only [Dj,Option.some.injEq,reduceCtorEq] at hv<;>subst hv<;>
  simp [eqGuard,binOp,Op.intArith,Op.intCmp,bne]<;>rfl
section
variable (w:World) (d:Nat) (t e:TypeId)
omit [aa] in
theorem Tm (hu:P.underlying t=some (.slice e)) (a:Addr) (l c m n:Nat):(Op.equalIn (d+1) t (.slice (some a) l c) (.slice none m n)).run P w= .ok false w:=by simp [Op.equalIn,run_underlying hu]
omit [aa] in
theorem Tn (hu:P.underlying t=some (.slice e)) (a:Addr) (l c m n:Nat):(Op.equalIn (d+1) t (.slice none m n) (.slice (some a) l c)).run P w= .ok false w:=by simp [Op.equalIn,run_underlying hu]
omit [aa] in
theorem Z6 (hu:P.underlying t=some (.pointer e)) (a:Addr):(Op.equalIn (d+1) t (.pointer (some a)) (.pointer none)).run P w= .ok false w:=by simp [Op.equalIn,run_underlying hu]
omit [aa] in
theorem Z7 (hu:P.underlying t=some (.pointer e)) (a:Addr):(Op.equalIn (d+1) t (.pointer none) (.pointer (some a))).run P w= .ok false w:=by simp [Op.equalIn,run_underlying hu]
omit [aa] in
theorem Z8 {p r:Array TypeId} {b:Bool} (hu:P.underlying t=some (.func p r b)) (f:Fn) (x y:Array Value):(Op.equalIn (d+1) t (.func f x y) .nilFunc).run P w= .ok false w:=by simp [Op.equalIn,run_underlying hu]
omit [aa] in
theorem acw {k:TypeId} (hu:P.underlying t=some (.map k e)) (a:Nat):(Op.equalIn (d+1) t (.map (some a)) (.map none)).run P w= .ok false w:=by simp [Op.equalIn,run_underlying hu]
end
omit [aa] in
theorem vD {t:TypeId} {a b:Value} (w:World) (x y:Operand) (h:(Op.equalIn (9999+1) t a b).run P w= .ok false w)
 (g1:(eqGuard .eql t x y a b).run P w= .ok () w) (g2:(eqGuard .neq t x y a b).run P w= .ok () w)
 (b1:binOp .eql t a b=(do pure (.bool (←Op.equal t a b)))) (b2:binOp .neq t a b=(do pure (.bool (!(←Op.equal t a b))))):
 (do eqGuard .eql t x y a b;binOp .eql t a b:Sem Value).run P w= .ok (.bool false) w∧
 (do eqGuard .neq t x y a b;binOp .neq t a b:Sem Value).run P w= .ok (.bool true) w:=by
 have h':(Op.equal t a b).run P w= .ok false w:=h
 constructor
 ·rw [Sem.run_bind,g1,b1];simp only [Result.andThen,Sem.run_bind,h',Sem.run_pure]
 ·rw [Sem.run_bind,g2,b2];simp only [Result.andThen,Sem.run_bind,h',Sem.run_pure];rfl
theorem Lb {n:Nat} {t:TypeId} {a b a' b':Value} (h:Bj P t a b=true) (ha:VR n ρ a a') (hb:VR n ρ b b') (w:World) (x y:Operand):
 (do eqGuard .eql t x y a' b';binOp .eql t a' b':Sem Value).run P w= .ok (.bool false) w∧
 (do eqGuard .neq t x y a' b';binOp .neq t a' b':Sem Value).run P w= .ok (.bool true) w:=by
 unfold Bj at h
 split at h
 ·split at h
  ·rename_i hu
   cases ha;cases hb
   exact vD w x y (Tm w _ t _ hu _ _ _ _ _) rfl rfl rfl rfl
  ·cases h
 ·split at h
  ·rename_i hu
   cases ha;cases hb
   exact vD w x y (Tn w _ t _ hu _ _ _ _ _) rfl rfl rfl rfl
  ·cases h
 ·split at h
  ·rename_i hu
   cases ha;cases hb
   exact vD w x y (Z6 w _ t _ hu _) rfl rfl rfl rfl
  ·cases h
 ·split at h
  ·rename_i hu
   cases ha;cases hb
   exact vD w x y (Z7 w _ t _ hu _) rfl rfl rfl rfl
  ·cases h
 ·split at h
  ·rename_i hu
   cases ha;cases hb
   exact vD w x y (Z8 w _ t hu _ _ _) rfl rfl rfl rfl
  ·cases h
 ·split at h
  ·rename_i hu
   cases ha;cases hb
   exact vD w x y (acw w _ t _ hu _) rfl rfl rfl rfl
  ·cases h
 ·cases h
end Go.CE
namespace Go.CE
open Go Go.RowKit
variable [aa]
variable {P:Program} {G:Nat} {h:H} {ρ:Ren} {w:World} {tm:TV} {tmps:Array Value}
omit [aa] in
theorem Z9 {s:Sem Value} {v:Value} (hs:s.run P w= .ok v w):(do pure (.value (←s)):Sem Next).run P w= .ok (.value v) w:=by
 rw [Sem.run_bind,hs];rfl
omit [aa] in
theorem Lc (n:Nat):iO (rJ n)=true:=by
 unfold iO rJ;rw [show (2*n+1)%2=1 by omega];rfl
omit [aa] in
theorem WJ (n:Nat):jK (rJ n)=n:=by
 unfold jK;rw [Lc];unfold rJ;simp only [cond_true];omega
omit [aa] in
theorem Ld (n s:Nat):iO (mH n s)=false:=by
 unfold iO mH;rw [show (2*(n+s*4294967296))%2=0 by omega];rfl
omit [aa] in
theorem WK (n s K:Nat) (h:n<K):2*(n+s*K)/2%K=n:=by
 rw [Nat.mul_div_cancel_left _ (by decide),Nat.add_mul_mod_self_right,Nat.mod_eq_of_lt h]
omit [aa] in
theorem Tp (n s K:Nat) (h:n<K):2*(n+s*K)/(2*K)=s:=by
 rw [Nat.mul_div_mul_left _ _ (by decide),Nat.add_mul_div_right _ _ (by omega),Nat.div_eq_of_lt h,Nat.zero_add]
omit [aa] in
theorem WL {n:Nat} (s:Nat) (h:n<4294967296):jK (mH n s)=n:=by
 unfold jK;rw [Ld];unfold mH;rw [cond_false];exact WK n s 4294967296 h
omit [aa] in
theorem OJ {n:Nat} (s:Nat) (h:n<4294967296):lH (mH n s)=s:=by
 unfold lH mH;exact Tp n s 4294967296 h
omit [aa] in
theorem WM {c:Nat} (h:iO c=false):jK c<4294967296:=by
 unfold jK;rw [h,cond_false];exact Nat.mod_lt _ (by decide)
omit [aa] in
theorem yD {o:Option Value} {v:Value} (h:Zw o=some v):o=some v∧af 6 v=true:=by
 unfold Zw at h
 cases o with
 |none=>cases h
 |some x=>
  cases hx:af 6 x with
  |true=>simp only [hx,cond_true,Option.some.injEq] at h;subst h;exact ⟨rfl,hx⟩
  |false=>simp [hx] at h
omit [aa] in
theorem qo (z o n:Nat):mJ z o (rJ n) n:=by unfold mJ;rw [if_pos (Lc n),WJ]
omit [aa] in
theorem yE {z o n s m:Nat} (h:n<4294967296) (hm:n≤m) (hz:o+m*s≤z):mJ z o (mH n s) m:=by
 unfold mJ;rw [if_neg (by rw [Ld];simp),WL s h,OJ s h];exact ⟨hm,hz⟩
section
variable (hr:HR G h ρ w) (ht:TR h.nx ρ tm tmps)
include hr ht
theorem Du {op:BinOp} {t:TypeId} {x y:Operand} {a b v:Value} (ha:ax G tm x=some a) (hb:ax G tm y=some b) (hv:lJ P op t x y a b=some v):
 ∃ v',VR h.nx ρ v v'∧(do eqGuard op t x y (ak tmps x) (ak tmps y);binOp op t (ak tmps x) (ak tmps y):Sem Value).run P w= .ok v' w:=by
 have va:=av hr ht ha
 have vb:=av hr ht hb
 unfold lJ at hv
 cases hc:(af 6 a&&af 6 b) with
 |true=>
  rw [hc] at hv;simp only [cond_true] at hv
  simp only [Bool.and_eq_true] at hc
  rw [nW 6 _ _ hc.1 va,nW 6 _ _ hc.2 vb]
  obtain ⟨h1,h2⟩:=yD hv
  exact ⟨v,eO 6 _ h2,fD h1 w⟩
 |false=>
  rw [hc] at hv;simp only [cond_false] at hv
  split at hv
  ·cases he:Bj P t a b with
   |true=>rw [he] at hv;cases hv;exact ⟨_,.bool false,(Lb he va vb w x y).1⟩
   |false=>rw [he] at hv;cases hv
  ·cases he:Bj P t a b with
   |true=>rw [he] at hv;cases hv;exact ⟨_,.bool true,(Lb he va vb w x y).2⟩
   |false=>rw [he] at hv;cases hv
  ·cases hv
end
end Go.CE
namespace Go.CE
open Go Go.RowKit
variable [aa]
variable {P:Program} {G:Nat} {h:H} {ρ:Ren} {w:World} {tm:TV} {tmps:Array Value}
omit [aa] in
theorem II:∀ (l:List Value) (b:List UInt8),bytesOf l=some b→∃ ns:List Int,l=ns.map (Value.int .u8)∧b=ns.map fun n=>UInt8.ofNat n.toNat:=by
 intro l
 induction l with
 |nil=>intro b hb;simp only [bytesOf,Option.some.injEq] at hb;subst hb;exact ⟨[],rfl,rfl⟩
 |cons v l ih=>
  intro b hb
  simp only [bytesOf] at hb
  cases h1:byteOf v with
  |none=>rw [h1] at hb;cases hb
  |some x=>
   cases h2:bytesOf l with
   |none=>rw [h1,h2] at hb;cases hb
   |some r=>
    rw [h1,h2] at hb;cases hb
    obtain ⟨ns,rfl,rfl⟩:=ih r h2
    unfold byteOf at h1
    split at h1
    ·rename_i n;cases h1;exact ⟨n::ns,rfl,rfl⟩
    ·cases h1
theorem Tq {n:Nat} {ρ:Ren} (ns:List Int) {l:List Value} (hl:V2 n ρ (ns.map (Value.int .u8)) l):l=ns.map (Value.int .u8):=by
 refine (L2.eq hl ?_).symm
 intro x y r hx
 obtain ⟨m,_,rfl⟩:=List.mem_map.1 hx
 cases r;rfl
omit [aa] in
theorem Le:∀ (ns:List Int) (s:ByteArray),ns.foldl (fun r n=>r.push (UInt8.ofNat n.toNat)) s=⟨(s.data.toList++ns.map fun n=>UInt8.ofNat n.toNat).toArray⟩:=by
 intro ns
 induction ns with
 |nil=>intro s;simp
 |cons n ns ih=>
  intro s
  rw [List.foldl_cons,ih]
  simp [ByteArray.push]
section
variable (hr:HR G h ρ w) (ht:TR h.nx ρ tm tmps)
include hr ht
theorem Tt {op:BinOp} {t:TypeId} {x y:Operand} {v:Value} (hv:zQ P G tm op t x y=some v):
 ∃ v',VR h.nx ρ v v'∧(do eqGuard op t x y (ak tmps x) (ak tmps y);binOp op t (ak tmps x) (ak tmps y):Sem Value).run P w= .ok v' w:=by
 unfold zQ at hv
 split at hv
 ·rename_i a b ha hb
  split at hv
  ·rename_i k m k' n
   split at hv
   ·rename_i v0 hi
    cases hv
    have va:=av hr ht ha
    have vb:=av hr ht hb
    cases hk:decide (k=k') with
    |true=>
     rw [hk,cond_true] at hi
     have:=of_decide_eq_true hk;subst this
     generalize ak tmps x=x' at va
     generalize ak tmps y=y' at vb
     cases va;cases vb
     refine ⟨v,?_,WI hi w⟩
     cases op<;>simp only [Dj,Option.some.injEq,reduceCtorEq] at hi<;>subst hi<;>first|exact .bool _|exact .int _ _
    |false=>rw [hk] at hi;cases hi
   ·exact Du hr ht ha hb hv
  ·exact Du hr ht ha hb hv
 ·cases hv
theorem WN {op:UnOp} {x:Operand} {v:Value} (hv:K5 P G tm op x=some v):
 ∃ v',VR h.nx ρ v v'∧(Op.unary op (ak tmps x)).run P w= .ok v' w:=by
 unfold K5 at hv
 split at hv
 ·rename_i a ha
  cases hc:af 6 a with
  |true=>
   rw [hc,cond_true] at hv
   obtain ⟨h1,h2⟩:=yD hv
   rw [nW 6 _ _ hc (av hr ht ha)]
   exact ⟨v,eO 6 _ h2,fD h1 w⟩
  |false=>rw [hc] at hv;cases hv
 ·cases hv
theorem Lf {s d:TypeId} {x:Operand} {v:Value} (hv:qi P G tm h s d x=some v):
 ∃ v',VR h.nx ρ v v'∧(convert s d (ak tmps x)).run P w= .ok v' w:=by
 unfold qi at hv
 split at hv
 ·rename_i a ha
  have va:=av hr ht ha
  cases hc:af 6 a with
  |true=>
   rw [hc,cond_true] at hv
   obtain ⟨h1,h2⟩:=yD hv
   rw [nW 6 _ _ hc va]
   exact ⟨v,eO 6 _ h2,fD h1 w⟩
  |false=>
   rw [hc,cond_false] at hv
   split at hv
   ·rename_i e i k len c hs hd
    unfold Rf at hv
    split at hv
    ·rename_i l he hl
     cases hb:bytesOf l with
     |none=>rw [hb] at hv;cases hv
     |some b=>
      rw [hb] at hv;cases hv
      obtain ⟨ns,rfl,rfl⟩:=II l b hb
      obtain ⟨_,l',h1,_,_,_,h2⟩:=yC (P:=P) hr hl
      obtain rfl:=Tq ns h1
      generalize ak tmps x=x' at va
      cases va with
      |slice _ _ _ _ c' hi hcap=>
       refine ⟨_,.string _,?_⟩
       rw [run_convert_bytes_string w s d e _ _ _ hs he hd,run_bytesToString w _ len c' ns h2,Le]
       simp [ByteArray.empty,ByteArray.emptyWithCapacity]
       rfl
    ·cases hv
   ·rename_i t i k hs hd
    split at hv
    ·rename_i n cs hn hcs
     cases hb:(Nat.blt 0 n&&Nat.blt k cs.length) with
     |true=>
      rw [hb,cond_true] at hv;cases hv
      simp only [Bool.and_eq_true] at hb
      have h1:0<n:=Nat.le_of_ble_eq_true hb.1
      have h2:k<cs.length:=Nat.le_of_ble_eq_true hb.2
      generalize ak tmps x=x' at va
      cases va with
      |ptr _ _ hi=>
       refine ⟨_,.ptr i k hi,?_⟩
       obtain ⟨_,ob,ji,iD⟩:=hr.obj i _ (nX hcs)
       cases iD with
       |cells _ c e fz hz hl hcv hf=>
        have hshape:w.shape? (ρ i).1=some (e,c.size):=by simp [World.shape?,ji]
        have hsz:(sizeOf t).run P w= .ok n w:=bI hn w
        have hnot:¬(c.size≤(ρ i).2.1+k):=by omega
        have hn0:¬(n=0):=by omega
        simp [convert,run_underlying hs,run_underlying hd,Conv.unsafePointer,Conv.seenAt,viewAt,hshape,cellsIn,hsz,hnot,hn0]
     |false=>rw [hb] at hv;cases hv
    ·cases hv
   ·cases hv
 ·cases hv
theorem yF {t:TypeId} {x:Operand} {v:Value} (hv:gD P G tm t x=some v):
 ∃ v',VR h.nx ρ v v'∧(Instr.makeInterface t (ak tmps x)).run P w= .ok v' w:=by
 unfold gD at hv
 split at hv
 ·cases hv
 ·rename_i d a hne hu ha
  cases hv
  refine ⟨_,.iface t _ _ (av hr ht ha),?_⟩
  simp only [Instr.makeInterface,Sem.run_bind,run_underlying hu,Result.andThen]
  cases d<;>first|rfl|exact absurd hu (hne _)
 ·cases hv
theorem IJ {fn:Fn} {first captured:Array Operand} {v:Value} (hv:qj G tm fn first captured=some v):
 ∃ v',VR h.nx ρ v v'∧(Instr.makeFunc fn (first.map (ak tmps)) (captured.map (ak tmps))).run P w= .ok v' w:=by
 unfold qj at hv
 split at hv
 ·rename_i f a b ha hb
  cases hv
  refine ⟨_,VR.func' (a':=first.map (ak tmps)) (b':=captured.map (ak tmps)) ?_ ?_,rfl⟩
  ·have:=jm hr ht _ _ ha;simpa using this
  ·have:=jm hr ht _ _ hb;simpa using this
 ·cases hv
theorem FJ {s:TypeId} {x:Operand} {f:Nat} {v:Value} (hv:iX P G tm s x f=some v):
 ∃ v',VR h.nx ρ v v'∧(Instr.fieldAt s (ak tmps x) f).run P w= .ok v' w:=by
 unfold iX at hv
 split at hv
 ·rename_i fields i k hu hx
  have vx:=av hr ht hx
  generalize ak tmps x=x' at vx
  cases hf:fields[f]? with
  |none=>rw [hf] at hv;cases hv
  |some fd=>
   rw [hf] at hv;simp only at hv
   cases hn:dU P fd.type with
   |none=>rw [hn] at hv;cases hv
   |some n=>
    rw [hn] at hv;simp only at hv
    cases hb:Nat.blt 0 n with
    |false=>rw [hb] at hv;cases hv
    |true=>
     rw [hb,cond_true] at hv;cases hv
     have h1:0<n:=Nat.le_of_ble_eq_true hb
     have hn0:¬(n=0):=by omega
     cases vx with
     |ptr _ _ hi=>
      refine ⟨_,.ptr i (k+fd.offset) hi,?_⟩
      simp [Instr.fieldAt,run_underlying hu,hf,Instr.sureAddr,fieldPlace,bI hn,hn0,jb,Nat.add_assoc]
 ·cases hv
theorem Tu {s:TypeId} {x:Operand} {f:Nat} {v:Value} (hv:zS P G tm s x f=some v):
 ∃ v',VR h.nx ρ v v'∧(Instr.field s (ak tmps x) f).run P w= .ok v' w:=by
 unfold zS at hv
 split at hv
 ·rename_i fields cs hu hx
  have vx:=av hr ht hx
  generalize ak tmps x=x' at vx
  cases hf:fields[f]? with
  |none=>rw [hf] at hv;cases hv
  |some fd=>
   rw [hf] at hv;simp only at hv
   cases vx with
   |agg _ a' ha hA=>
    obtain ⟨v',h1,h2⟩:=La (P:=P) ⟨ha,hA⟩ hv w
    exact ⟨v',h1,by simp [Instr.field,run_underlying hu,hf,asAgg,h2]⟩
 ·cases hv
omit hr ht in
theorem GD {elem:TypeId} {i k n:Nat} {j:Int} {v:Value} (hi:In h.nx ρ i) (hv:zT P elem i k n j=some v):
 ∃ size,dU P elem=some size∧0≤j∧j<n∧VR h.nx ρ v (.pointer (some ((⟨(ρ i).1,(ρ i).2.1+k,none⟩:Addr).add (j.toNat*size)))):=by
 unfold zT at hv
 cases hn:dU P elem with
 |none=>rw [hn] at hv;cases hv
 |some size=>
  rw [hn] at hv;simp only at hv
  cases hb:(decide (0≤j)&&decide (j<n)) with
  |false=>rw [hb] at hv;cases hv
  |true=>
   rw [hb,cond_true] at hv;cases hv
   simp only [Bool.and_eq_true,decide_eq_true_eq] at hb
   refine ⟨size,rfl,hb.1,hb.2,?_⟩
   rw [jb,Nat.add_assoc]
   exact .ptr i (k+j.toNat*size) hi
theorem FK {t:TypeId} {x ix:Operand} {v:Value} (hv:kY P G tm t x ix=some v):
 ∃ v',VR h.nx ρ v v'∧(Instr.indexAt t (ak tmps x) (ak tmps ix)).run P w= .ok v' w:=by
 unfold kY at hv
 split at hv
 ·rename_i n elem i k kd j hu hx hj
  have vx:=av hr ht hx
  have vj:=av hr ht hj
  generalize ak tmps x=x' at vx
  generalize ak tmps ix=j' at vj
  cases vj;cases vx with
  |ptr _ _ hi=>
   obtain ⟨size,h1,h2,h3,h4⟩:=GD hi hv
   exact ⟨_,h4,by simp [Instr.indexAt,asIntOf,run_underlying hu,Instr.sureAddr,bI h1,h2,h3]⟩
 ·rename_i elem i k n c kd j hu hx hj
  have vx:=av hr ht hx
  have vj:=av hr ht hj
  generalize ak tmps x=x' at vx
  generalize ak tmps ix=j' at vj
  cases vj;cases vx with
  |slice _ _ _ _ c' hi hc=>
   obtain ⟨size,h1,h2,h3,h4⟩:=GD hi hv
   exact ⟨_,h4,by simp [Instr.indexAt,asIntOf,run_underlying hu,bI h1,h2,h3]⟩
 ·cases hv
theorem Tv {t:TypeId} {x ix:Operand} {v:Value} (hv:zU P G tm t x ix=some v):
 ∃ v',VR h.nx ρ v v'∧(Instr.index t (ak tmps x) (ak tmps ix)).run P w= .ok v' w:=by
 unfold zU at hv
 split at hv
 ·rename_i s kd j hu hx hj
  have vx:=av hr ht hx
  have vj:=av hr ht hj
  generalize ak tmps x=x' at vx
  generalize ak tmps ix=j' at vj
  cases vj;cases vx
  cases hb:decide (0≤j) with
  |false=>rw [hb] at hv;cases hv
  |true=>
   rw [hb,cond_true] at hv
   have h0:=of_decide_eq_true hb
   cases hs:s.data.toList[j.toNat]? with
   |none=>rw [hs] at hv;cases hv
   |some b=>
    rw [hs] at hv;cases hv
    refine ⟨_,.int _ _,?_⟩
    have hs':s.data[j.toNat]? =some b:=by simpa using hs
    obtain ⟨hlt,he⟩:=Array.getElem?_eq_some_iff.1 hs'
    have hsz:j.toNat<s.size:=hlt
    have hget:s[j.toNat]? =some b:=by
     rw [getElem?_pos s j.toNat hsz];exact congrArg some he
    simp [Instr.index,asIntOf,run_underlying hu,h0,hget]
 ·rename_i n elem cs kd j hu hx hj
  have vx:=av hr ht hx
  have vj:=av hr ht hj
  generalize ak tmps x=x' at vx
  generalize ak tmps ix=j' at vj
  cases vj
  cases hn:dU P elem with
  |none=>rw [hn] at hv;cases hv
  |some size=>
   rw [hn] at hv;simp only at hv
   cases hb:(decide (0≤j)&&decide (j<n)) with
   |false=>rw [hb] at hv;cases hv
   |true=>
    rw [hb,cond_true] at hv
    simp only [Bool.and_eq_true,decide_eq_true_eq] at hb
    cases vx with
    |agg _ a' ha hA=>
     obtain ⟨v',h1,h2⟩:=La (P:=P) ⟨ha,hA⟩ hv w
     exact ⟨v',h1,by simp [Instr.index,asIntOf,run_underlying hu,hb.1,hb.2,bI hn,h2]⟩
 ·cases hv
theorem Lg {x:Operand} {i:Nat} {v:Value} (hv:tZ G tm x i=some v):
 ∃ v',VR h.nx ρ v v'∧(Instr.extract (ak tmps x) i).run P w= .ok v' w:=by
 unfold tZ at hv
 split at hv
 ·rename_i vs hx
  have vx:=av hr ht hx
  generalize ak tmps x=x' at vx
  cases vx with
  |tuple _ a' ha hA=>
   have h1:vs.toList[i]? =some v:=by simpa using hv
   obtain ⟨y,h2,h3⟩:=L2.get (R:=VR h.nx ρ) ⟨ha,hA⟩ h1
   have h4:a'[i]? =some y:=by simpa using h2
   exact ⟨y,h3,by simp [Instr.extract,h4]⟩
 ·cases hv
end
end Go.CE
namespace Go.CE
open Go Go.RowKit
variable [aa]
variable {P:Program} {G:Nat} {h:H} {ρ:Ren} {w:World} {tm:TV} {tmps:Array Value}
theorem nA {x:Value} {y r y':Nat} (hb:nT x y=some r) (hy:y≤y') (code:BoundsCode) {n:Nat} {x':Value} (hx:VR n ρ x x') (w:World):
 (Instr.sliceBound x' y' code).run P w= .ok r w∧r≤y:=by
 unfold nT at hb
 split at hb
 ·rename_i k i
  cases hc:(decide (0≤i)&&decide (i≤(y:Int))) with
  |false=>rw [hc] at hb;cases hb
  |true=>
   rw [hc,cond_true] at hb;cases hb
   simp only [Bool.and_eq_true,decide_eq_true_eq] at hc
   cases hx
   have h2:i≤(y':Int):=by omega
   exact ⟨by simp [Instr.sliceBound,asIntOf,hc.1,h2],by omega⟩
 ·cases hb
def Lh (n:Nat) (ρ:Ren):Option (Option Value)→Option Value→Prop
 |none,none=>True
 |some (some v),some v'=>VR n ρ v v'
 |some none,some _=>True
 |_,_=>False
theorem q9 {n:Nat} {isSlice:Bool} {len cap cap' l hh m:Nat} {lo hi mx:Option (Option Value)} {lo' hi' mx':Option Value} (hb:lI len cap lo hi mx=some (l,hh,m)) (hc:cap≤cap')
 (hlo:Lh n ρ lo lo') (hhi:Lh n ρ hi hi') (hmx:Lh n ρ mx mx') (w:World):
 (mx=none→m=cap∧(Instr.sliceBounds isSlice len cap' lo' hi' mx').run P w= .ok (l,hh,cap') w)∧
 (mx≠none→m≤cap∧(Instr.sliceBounds isSlice len cap' lo' hi' mx').run P w= .ok (l,hh,m) w)∧(hi≠none→hh≤m)∧(lo≠none→l≤hh)∧(hi=none→hh=len)∧(lo=none→l=0):=by
 unfold lI at hb
 cases mx with
 |none=>
  cases mx' with
  |some _=>exact hmx.elim
  |none=>
   simp only at hb
   cases hi with
   |none=>
    cases hi' with
    |some _=>exact hhi.elim
    |none=>
     simp only at hb
     cases lo with
     |none=>
      cases lo' with
      |some _=>exact hlo.elim
      |none=>simp only [Option.some.injEq,Prod.mk.injEq] at hb;obtain ⟨rfl,rfl,rfl⟩:=hb;simp [Instr.sliceBounds]
     |some lv=>
      cases lo' with
      |none=>cases lv<;>exact hlo.elim
      |some gM=>
       cases lv with
       |none=>simp at hb
       |some lv=>
        simp only at hb
        cases h1:nT lv len with
        |none=>rw [h1] at hb;cases hb
        |some r=>
         rw [h1] at hb;simp only [Option.some.injEq,Prod.mk.injEq] at hb;obtain ⟨rfl,rfl,rfl⟩:=hb
         obtain ⟨h2,h3⟩:=nA (P:=P) h1 (Nat.le_refl _) .sliceB hlo w
         simp [Instr.sliceBounds,h2,h3]
   |some hv=>
    cases hi' with
    |none=>cases hv<;>exact hhi.elim
    |some hv'=>
     cases hv with
     |none=>simp at hb
     |some hv=>
      simp only at hb
      cases h4:nT hv cap with
      |none=>rw [h4] at hb;cases hb
      |some r4=>
       rw [h4] at hb;simp only at hb
       have h5:=fun code=>nA (P:=P) h4 hc code hhi w
       cases lo with
       |none=>
        cases lo' with
        |some _=>exact hlo.elim
        |none=>
         simp only [Option.some.injEq,Prod.mk.injEq] at hb;obtain ⟨rfl,rfl,rfl⟩:=hb
         simp [Instr.sliceBounds,(h5 _).1,(h5 .index).2]
       |some lv=>
        cases lo' with
        |none=>cases lv<;>exact hlo.elim
        |some gM=>
         cases lv with
         |none=>simp at hb
         |some lv=>
          simp only at hb
          cases h1:nT lv r4 with
          |none=>rw [h1] at hb;cases hb
          |some r=>
           rw [h1] at hb;simp only [Option.some.injEq,Prod.mk.injEq] at hb;obtain ⟨rfl,rfl,rfl⟩:=hb
           obtain ⟨h2,h3⟩:=nA (P:=P) h1 (Nat.le_refl _) .sliceB hlo w
           simp [Instr.sliceBounds,h2,h3,(h5 _).1,(h5 .index).2]
 |some mv=>
  cases mx' with
  |none=>cases mv<;>exact hmx.elim
  |some mv'=>
   cases mv with
   |none=>simp at hb
   |some mv=>
    simp only at hb
    cases h6:nT mv cap with
    |none=>rw [h6] at hb;cases hb
    |some r6=>
     rw [h6] at hb;simp only at hb
     have h7:=fun code=>nA (P:=P) h6 hc code hmx w
     cases hi with
     |none=>simp at hb
     |some hv=>
      cases hi' with
      |none=>cases hv<;>exact hhi.elim
      |some hv'=>
       cases hv with
       |none=>simp at hb
       |some hv=>
        simp only at hb
        cases h4:nT hv r6 with
        |none=>rw [h4] at hb;cases hb
        |some r4=>
         rw [h4] at hb;simp only at hb
         have h5:=fun code=>nA (P:=P) h4 (Nat.le_refl _) code hhi w
         cases lo with
         |none=>
          cases lo' with
          |some _=>exact hlo.elim
          |none=>
           simp only [Option.some.injEq,Prod.mk.injEq] at hb;obtain ⟨rfl,rfl,rfl⟩:=hb
           simp [Instr.sliceBounds,(h5 _).1,(h5 .index).2,(h7 _).1,(h7 .index).2]
         |some lv=>
          cases lo' with
          |none=>cases lv<;>exact hlo.elim
          |some gM=>
           cases lv with
           |none=>simp at hb
           |some lv=>
            simp only at hb
            cases h1:nT lv r4 with
            |none=>rw [h1] at hb;cases hb
            |some r=>
             rw [h1] at hb;simp only [Option.some.injEq,Prod.mk.injEq] at hb;obtain ⟨rfl,rfl,rfl⟩:=hb
             obtain ⟨h2,h3⟩:=nA (P:=P) h1 (Nat.le_refl _) .slice3C hlo w
             simp [Instr.sliceBounds,h2,h3,(h5 _).1,(h5 .index).2,(h7 _).1,(h7 .index).2]
end Go.CE
namespace Go.CE
open Go Go.RowKit
variable [aa]
variable {P:Program} {G:Nat} {h:H} {ρ:Ren} {w:World} {tm:TV} {tmps:Array Value}
omit [aa] in
theorem beq_true {a b:Nat} (h:Nat.beq a b=true):a=b:=Nat.eq_of_beq_eq_true h
omit [aa] in
theorem IK (kind:TypeDesc) (k:Value):∀ (es:List MapEntry) (i:Nat),
 Instr.findNow kind k (bare es) i=(Instr.findNow kind k es i).map (Option.map fun x=>(x.1,undef)):=by
 intro es
 induction es with
 |nil=>intro i;rfl
 |cons e es ih=>
  intro i
  simp only [bare,List.map_cons,Instr.findNow]
  cases Instr.sameNow kind k e.key with
  |none=>rfl
  |some b=>cases b with
   |true=>rfl
   |false=>exact ih (i+1)
omit [aa] in
theorem Li (kind:TypeDesc) (k:Value):∀ (es:List MapEntry) (i j:Nat) (v:Value),Instr.findNow kind k es i=some (some (j,v))→i≤j∧∃ e,es[j-i]? =some e∧v=e.val:=by
 intro es
 induction es with
 |nil=>intro i j v hf;simp [Instr.findNow] at hf
 |cons e es ih=>
  intro i j v hf
  simp only [Instr.findNow] at hf
  cases hs:Instr.sameNow kind k e.key with
  |none=>rw [hs] at hf;cases hf
  |some b=>cases b with
   |true=>rw [hs] at hf;cases hf;exact ⟨Nat.le_refl _,e,by simp,rfl⟩
   |false=>
    rw [hs] at hf
    obtain ⟨h1,e',h2,h3⟩:=ih (i+1) j v hf
    refine ⟨by omega,e',?_,h3⟩
    rw [show j-i=(j-(i+1))+1 by omega,List.getElem?_cons_succ];exact h2
omit [aa] in
theorem BJ (kt:TypeId) (k:Value) (w:World):∀ (es:List MapEntry) (i:Nat) (r:Option (Nat×Value)),
 di P (Instr.findAsking kt k (bare es) i)=some r→
 (∃ r',(Instr.findAsking kt k es i).run P w= .ok r' w∧r=r'.map (fun x=>(x.1,undef))∧∀ j v,r'=some (j,v)→i≤j∧∃ e,es[j-i]? =some e∧v=e.val):=by
 intro es
 induction es with
 |nil=>intro i r hr;simp only [bare,List.map_nil,Instr.findAsking] at hr;cases hr;exact ⟨none,rfl,rfl,fun j v h=>by cases h⟩
 |cons e es ih=>
  intro i r hr
  have hrun:=fD hr w
  simp only [bare,List.map_cons,Instr.findAsking,Sem.run_bind] at hrun ⊢
  have hp:∃ b,di P (Op.equal kt k e.key)=some b∧di P (if b=true then (Pure.pure (some (i,undef)):Sem (Option (Nat×Value))) else Instr.findAsking kt k (bare es) (i+1))=some r:=by
   have:di P ((Op.equal kt k e.key).bind fun b=>if b=true then (Pure.pure (some (i,undef)):Sem (Option (Nat×Value))) else Instr.findAsking kt k (bare es) (i+1))=some r:=hr
   clear hr hrun
   generalize Op.equal kt k e.key=s at this
   induction s with
   |pure b=>exact ⟨b,rfl,this⟩
   |program f ihs=>exact ihs P this
   |mark m f ihs=>exact ihs this
   |_=>cases this
  obtain ⟨b,h1,h2⟩:=hp
  rw [fD h1 w]
  simp only [Result.andThen]
  cases b with
  |true=>
   simp only [if_true] at h2 ⊢
   cases h2
   exact ⟨_,rfl,rfl,fun j v hj=>by cases hj;exact ⟨Nat.le_refl _,e,by simp,rfl⟩⟩
  |false=>
   simp only [Bool.false_eq_true,if_false] at h2 ⊢
   obtain ⟨r',h3,h4,h5⟩:=ih (i+1) r h2
   refine ⟨r',h3,h4,fun j v hj=>?_⟩
   obtain ⟨h6,e',h7,h8⟩:=h5 j v hj
   refine ⟨by omega,e',?_,h8⟩
   rw [show j-i=(j-(i+1))+1 by omega,List.getElem?_cons_succ];exact h7
omit [aa] in
theorem yG {kt:TypeId} {k:Value} {es:List MapEntry} {r:Option (Nat×Value)} (hr:di P (Instr.findKey kt k (bare es))=some r) (w:World):
 ∃ r',(Instr.findKey kt k es).run P w= .ok r' w∧r=r'.map (fun x=>(x.1,undef))∧∀ j v,r'=some (j,v)→∃ e,es[j]? =some e∧v=e.val:=by
 cases hu:P.underlying kt with
 |none=>
  have:=fD hr w
  simp [Instr.findKey,underlying,hu] at this
 |some d=>
  have hr':di P (match Instr.findNow d k (bare es) 0 with|some r=>(Pure.pure r:Sem (Option (Nat×Value)))|none=>Instr.findAsking kt k (bare es))=some r:=by
   have:di P (Instr.findKey kt k (bare es))=some r:=hr
   simp only [Instr.findKey,underlying,program] at this
   change di P (((Sem.program Sem.pure).bind fun p=>match p.underlying kt with|some d=>Sem.pure d|none=>stuck "no such type").bind fun d=>match Instr.findNow d k (bare es) 0 with|some r=>(Pure.pure r:Sem (Option (Nat×Value)))|none=>Instr.findAsking kt k (bare es))=some r at this
   simp only [Sem.bind,di,hu] at this
   exact this
  rw [IK] at hr'
  simp only [Instr.findKey,Sem.run_bind,run_underlying hu,Result.andThen]
  cases hf:Instr.findNow d k es 0 with
  |some x=>
   rw [hf] at hr'
   simp only [Option.map_some] at hr'
   cases hr'
   refine ⟨x,rfl,rfl,fun j v hj=>?_⟩
   subst hj
   obtain ⟨_,e,h2,h3⟩:=Li d k es 0 j v hf
   exact ⟨e,by simpa using h2,h3⟩
  |none=>
   rw [hf] at hr'
   obtain ⟨r',h1,h2,h3⟩:=BJ (P:=P) kt k w es 0 r hr'
   exact ⟨r',h1,h2,fun j v hj=>let ⟨_,e,h5,h6⟩:=h3 j v hj;⟨e,by simpa using h5,h6⟩⟩
theorem Tw {n:Nat} {ρ:Ren} {es es':List MapEntry} (hl:L2 (oI n ρ) es es') (haf:es.all (fun e=>af 6 e.key)=true):bare es'=bare es:=by
 unfold bare
 apply List.ext_getElem?
 intro i
 rw [List.getElem?_map,List.getElem?_map]
 cases he:es[i]? with
 |none=>
  have:es'.length≤i:=by rw [←hl.1];exact List.getElem?_eq_none_iff.1 he
  rw [List.getElem?_eq_none this]
 |some e=>
  obtain ⟨e',h1,h2,h3,h4⟩:=hl.get he
  rw [h1]
  have:=nW 6 _ _ (List.all_eq_true.1 haf e (List.mem_of_getElem? he)) h2
  simp [this,h4]
theorem yH {n:Nat} {ρ:Ren} {empty:Bool} {kt:TypeId} {k k':Value} {es es':List MapEntry} {r:Option Nat} (hf:oO P empty kt k es=some r) (hk:VR n ρ k k') (hl:L2 (oI n ρ) es es') (w:World):
 k'=k∧(Instr.checkKey empty 10000 kt k).run P w= .ok () w∧(∀ e∈es,af 6 e.key=true)∧
 ∃ r',(Instr.findKey kt k es').run P w= .ok r' w∧r'.map (·.1)=r∧∀ j v,r'=some (j,v)→∃ e,es'[j]? =some e∧v=e.val:=by
 unfold oO at hf
 cases hc:(af 6 k&&es.all fun e=>af 6 e.key) with
 |false=>rw [hc] at hf;cases hf
 |true=>
  rw [hc,cond_true] at hf
  simp only [Bool.and_eq_true] at hc
  have hk':=nW 6 _ _ hc.1 hk
  rw [←Tw hl hc.2] at hf
  have hall:∀ e∈es,af 6 e.key=true:=fun e he=>List.all_eq_true.1 hc.2 e he
  split at hf
  ·rename_i i y h1 h2
   cases hf
   obtain ⟨r',h3,h4,h5⟩:=yG h2 w
   refine ⟨hk',fD h1 w,hall,r',h3,?_,h5⟩
   cases r' with
   |none=>cases h4
   |some x=>simp only [Option.map_some,Option.some.injEq,Prod.mk.injEq] at h4;rw [Option.map_some,h4.1]
  ·rename_i h1 h2
   cases hf
   obtain ⟨r',h3,h4,h5⟩:=yG h2 w
   refine ⟨hk',fD h1 w,hall,r',h3,?_,h5⟩
   cases r' with
   |none=>rfl
   |some x=>cases h4
  ·cases hf
theorem nY {n:Nat} (hr:HR G h ρ w) {r:Nat} {es:List MapEntry} {clock:Nat} (hm:h.hp.get r=some (.map es clock)) (hn:n=h.nx):
 ∃ es',w.heap[(ρ r).1]? =some (.map es' clock)∧L2 (oI n ρ) es es'.toList∧In n ρ r:=by
 subst hn
 obtain ⟨hi,ob,ji,iD⟩:=hr.obj r _ hm
 cases iD with
 |map _ _ es' hl=>exact ⟨es',ji,hl,hi⟩
omit [aa] in
theorem run_getObj_map {r:Nat} {es:Array MapEntry} {clock:Nat} (hm:w.heap[r]? =some (.map es clock)):(getObj r).run P w= .ok (.map es clock) w:=by
 simp [getObj,Sem.run,hm]
section
variable (hr:HR G h ρ w) (ht:TR h.nx ρ tm tmps)
include hr ht
theorem OM {t:TypeId} {x ix:Operand} {ok:Bool} {v:Value} (hv:vv P G tm h t x ix ok=some v):
 ∃ v',VR h.nx ρ v v'∧(Instr.lookup t (ak tmps x) (ak tmps ix) ok).run P w= .ok v' w:=by
 unfold vv at hv
 split at hv
 ·rename_i kt et m k hu hx hk
  have vx:=av hr ht hx
  have vk:=av hr ht hk
  generalize ak tmps x=x' at vx
  generalize ak tmps ix=k' at vk
  cases hes:ym h m with
  |none=>rw [hes] at hv;cases hv
  |some es=>
   rw [hes] at hv;simp only at hv
   have hex:∃ es':Array MapEntry,L2 (oI h.nx ρ) es es'.toList∧((x'= .map none∧es'= #[])∨∃ r clock,x'= .map (some r)∧(getObj r).run P w= .ok (.map es' clock) w):=by
    unfold ym at hes
    split at hes
    ·cases hes;cases vx;exact ⟨#[],L2.nil,.inl ⟨rfl,rfl⟩⟩
    ·rename_i r
     split at hes
     ·rename_i es0 clock hm
      cases hes
      obtain ⟨es',h1,h2,_⟩:=nY hr hm rfl
      cases vx
      exact ⟨es',h2,.inr ⟨_,clock,rfl,run_getObj_map h1⟩⟩
     ·cases hes
    ·cases hes
   obtain ⟨es',hl,hform⟩:=hex
   have hemp:es'.isEmpty=es.isEmpty:=by
    have:=hl.1
    cases es with
    |nil=>simp at this;simp [Array.isEmpty,this]
    |cons a l=>simp at this;simp [Array.isEmpty,←this]
   cases hf:oO P es.isEmpty kt k es with
   |none=>rw [hf] at hv;cases hv
   |some r=>
    obtain ⟨rfl,h1,_,r',h2,h3,h4⟩:=yH hf vk hl w
    rw [hf] at hv
    cases r with
    |some i=>
     simp only at hv
     cases r' with
     |none=>cases h3
     |some jv=>
      obtain ⟨j,v0⟩:=jv
      simp only [Option.map_some,Option.some.injEq] at h3;subst h3
      obtain ⟨e',he',rfl⟩:=h4 j v0 rfl
      cases he:es[j]? with
      |none=>rw [he] at hv;cases hv
      |some e=>
       rw [he] at hv;simp only [Option.some.injEq] at hv
       obtain ⟨e'',h5,h6⟩:=hl.get he
       rw [h5] at he';cases he'
       refine ⟨bif ok then .tuple #[e'.val,.bool true] else e'.val,?_,?_⟩
       ·subst hv
        cases ok with
        |true=>exact VR.tuple' (L2.cons h6.2.1 (L2.cons (.bool true) L2.nil))
        |false=>exact h6.2.1
       ·rcases hform with ⟨rfl,rfl⟩|⟨r0,clock,rfl,hg⟩
        ·simp only [Instr.lookup,Sem.run_bind,run_underlying hu,Result.andThen,Sem.run_pure,hemp,h1,h2]
         cases ok<;>rfl
        ·simp only [Instr.lookup,Sem.run_bind,run_underlying hu,Result.andThen,Sem.run_pure,hg,hemp,h1,h2]
         cases ok<;>rfl
    |none=>
     simp only at hv
     cases r' with
     |some jv=>cases h3
     |none=>
      cases hz:mI P et with
      |none=>rw [hz] at hv;cases hv
      |some z=>
       rw [hz] at hv;simp only [Option.some.injEq] at hv
       obtain ⟨hz1,hz2⟩:=j4 hz w
       refine ⟨bif ok then .tuple #[z,.bool false] else z,?_,?_⟩
       ·subst hv
        cases ok with
        |true=>exact VR.tuple' (L2.cons (eO 6 _ hz2) (L2.cons (.bool false) L2.nil))
        |false=>exact eO 6 _ hz2
       ·rcases hform with ⟨rfl,rfl⟩|⟨r0,clock,rfl,hg⟩
        ·simp only [Instr.lookup,Sem.run_bind,run_underlying hu,Result.andThen,Sem.run_pure,hemp,h1,h2,hz1]
         cases ok<;>rfl
        ·simp only [Instr.lookup,Sem.run_bind,run_underlying hu,Result.andThen,Sem.run_pure,hg,hemp,h1,h2,hz1]
         cases ok<;>rfl
 ·cases hv
theorem Tx {x:Operand} {v:Value} (hv:Dk G tm h x=some v):
 ∃ v',VR h.nx ρ v v'∧(Instr.entry (ak tmps x)).run P w= .ok v' w:=by
 unfold Dk at hv
 split at hv
 ·rename_i r hx
  have vx:=av hr ht hx
  generalize ak tmps x=x' at vx
  split at hv
  ·rename_i m since seen stepped hw
   obtain ⟨hi,ob,ji,iD⟩:=hr.obj r _ hw
   split at hv
   ·rename_i stamp es clock hs hm
    cases hb:Nat.beq clock stepped with
    |false=>rw [hb] at hv;cases hv
    |true=>
     rw [hb,cond_true] at hv
     obtain rfl:=beq_true hb
     split at hv
     ·rename_i e he
      cases hv
      obtain ⟨es',h1,h2,_⟩:=nY hr hm rfl
      cases iD with
      |walk _ _ _ _ hmn h00=>
       have hback:seen.reverse.toArray.back?=some stamp:=by
        cases seen with
        |nil=>cases hs
        |cons a l=>simp at hs;subst hs;simp
       have hfind:∃ e',es'.find? (·.born==stamp)=some e'∧oI h.nx ρ e e':=by
        have:∀ (l:List MapEntry) (l':List MapEntry),L2 (oI h.nx ρ) l l'→l.find? (fun e=>Nat.beq e.born stamp)=some e→∃ e',l'.find? (·.born==stamp)=some e'∧oI h.nx ρ e e':=by
         intro l
         induction l with
         |nil=>intro l' _ hf;cases hf
         |cons a l ih=>
          intro l' hl hf
          obtain ⟨b,t,rfl,hab,ht'⟩:=hl.aL
          rw [List.find?_cons] at hf ⊢
          have hbn:(b.born==stamp)=Nat.beq a.born stamp:=by rw [hab.2.2,Bool.eq_iff_iff,Nat.beq_eq,beq_iff_eq]
          rw [hbn]
          cases hc:Nat.beq a.born stamp with
          |true=>rw [hc] at hf;cases hf;exact ⟨b,rfl,hab⟩
          |false=>rw [hc] at hf;exact ih t ht' hf
        obtain ⟨e',h3,h4⟩:=this es es'.toList h2 he
        exact ⟨e',by rw [←Array.find?_toList];exact h3,h4⟩
       obtain ⟨e',h3,h4⟩:=hfind
       refine ⟨.tuple #[e'.key,e'.val],VR.tuple' (L2.cons h4.1 (L2.cons h4.2.1 L2.nil)),?_⟩
       cases vx with
       |ptr _ _ hrn=>
        have hg:(getObj (ρ r).1).run P w= .ok (.mapIter (some (ρ m).1) since seen.reverse.toArray clock) w:=by simp [getObj,Sem.run,ji]
        have hg2:=run_getObj_map (P:=P) h1
        rw [h00]
        simp only [Instr.entry,Nat.add_zero,Sem.run_bind,hg,Result.andThen,hback,hg2,bne_self_eq_false,Bool.false_eq_true,if_false,h3]
        rfl
     ·cases hv
   ·cases hv
  ·cases hv
 ·cases hv
theorem Rj {t:TypeId} {x:Operand} {v:Value} (hv:Te P G tm h t x=some v) (ty:TypeId):
 ∃ v',VR h.nx ρ v v'∧(Builtin.len_ #[t] ty #[ak tmps x]).run P w= .ok v' w:=by
 unfold Te at hv
 split at hv
 ·rename_i s hu hx
  have vx:=av hr ht hx
  generalize ak tmps x=x' at vx
  cases hv;cases vx
  exact ⟨_,.int _ _,by simp [Builtin.len_,run_underlying hu,goInt]⟩
 ·rename_i e a n c hu hx
  have vx:=av hr ht hx
  generalize ak tmps x=x' at vx
  cases hv;cases vx<;>exact ⟨_,.int _ _,by simp [Builtin.len_,run_underlying hu,goInt]⟩
 ·rename_i n e y hu hx
  cases hv
  exact ⟨_,.int _ _,by simp [Builtin.len_,run_underlying hu,goInt]⟩
 ·rename_i a b hu hx
  have vx:=av hr ht hx
  generalize ak tmps x=x' at vx
  cases hv;cases vx
  exact ⟨_,.int _ _,by simp [Builtin.len_,run_underlying hu,goInt]⟩
 ·rename_i a b r hu hx
  have vx:=av hr ht hx
  generalize ak tmps x=x' at vx
  split at hv
  ·rename_i es clock hm
   cases hv
   obtain ⟨es',h1,h2,_⟩:=nY hr hm rfl
   cases vx
   have hlen:es'.size=es.length:=by have:=h2.1;simpa using this.symm
   refine ⟨_,.int _ _,?_⟩
   simp [Builtin.len_,run_underlying hu,goInt,run_getObj_map h1,hlen]
  ·cases hv
 ·cases hv
theorem aaa {t:TypeId} {x:Operand} {v:Value} (hv:Tf P G tm t x=some v) (ty:TypeId):
 ∃ v',VR h.nx ρ v v'∧(Builtin.cap_ #[t] ty #[ak tmps x]).run P w= .ok v' w:=by
 unfold Tf at hv
 split at hv
 ·rename_i e l n hu hx
  have vx:=av hr ht hx
  generalize ak tmps x=x' at vx
  cases hv;cases vx
  exact ⟨_,.int _ _,by simp [Builtin.cap_,run_underlying hu,goInt]⟩
 ·rename_i e a l c hu hx
  have vx:=av hr ht hx
  generalize ak tmps x=x' at vx
  cases hc:iO c with
  |false=>rw [hc] at hv;cases hv
  |true=>
   rw [hc,cond_true] at hv;cases hv
   cases vx with
   |slice i k _ _ c' hi hcap=>
    unfold mJ at hcap
    rw [if_pos hc] at hcap;subst hcap
    exact ⟨_,.int _ _,by simp [Builtin.cap_,run_underlying hu,goInt]⟩
 ·cases hv
theorem Dv {mx:Bool} {ats:Array TypeId} {args:Array Operand} {v:Value} (hv:qZ P G tm mx ats args=some v) (ty:TypeId):
 ∃ v',VR h.nx ρ v v'∧(bif mx then Builtin.max_ ats ty (args.map (ak tmps)) else Builtin.min_ ats ty (args.map (ak tmps))).run P w= .ok v' w:=by
 unfold qZ at hv
 split at hv
 ·rename_i vs hvs
  cases hc:vs.all (af 6) with
  |false=>rw [hc] at hv;cases hv
  |true=>
   rw [hc,cond_true] at hv
   obtain ⟨h1,h2⟩:=yD hv
   have Z5:=jm hr ht _ _ hvs
   have he:args.map (ak tmps)=vs.toArray:=by
    apply Array.toList_inj.1
    have:=L2.eq Z5 (fun x y r hx=>(nW 6 _ _ (List.all_eq_true.1 hc x hx) r).symm)
    simp [←this]
   refine ⟨v,eO 6 _ h2,?_⟩
   have:=fD h1 w
   rw [he]
   cases mx<;>exact this
 ·cases hv
omit hr ht in
theorem uk {x:Option Operand} {n:Nat} (hh:HR G h ρ w) (hT:TR h.nx ρ tm tmps) (hn:n=h.nx):Lh n ρ (x.map (ax G tm)) (x.map (ak tmps)):=by
 subst hn
 cases x with
 |none=>exact trivial
 |some x=>
  show Lh h.nx ρ (some (ax G tm x)) (some (ak tmps x))
  cases hx:ax G tm x with
  |none=>exact trivial
  |some v=>exact av hh hT hx
omit hr ht in
theorem Ty {n:Nat} {t:TypeId} {x x' v:Value} {lo hi mx:Option (Option Value)} {lo' hi' mx':Option Value} (hv:Dh P t x lo hi mx=some v) (hx:VR n ρ x x')
 (hlo:Lh n ρ lo lo') (hhi:Lh n ρ hi hi') (hmx:Lh n ρ mx mx') (w:World):
 ∃ v',VR n ρ v v'∧(Instr.sliceAt t x' lo' hi' mx').run P w= .ok v' w:=by
 unfold Dh at hv
 split at hv
 ·rename_i N elem i k hu
  split at hv
  ·rename_i l hh m size hb hs
   cases hv
   cases hx with
   |ptr _ _ hin=>
    obtain ⟨b1,b2,_,_,_,_⟩:=q9 (P:=P) (isSlice:=false) hb (Nat.le_refl _) hlo hhi hmx w
    have hrun:(Instr.sliceBounds false N N lo' hi' mx').run P w= .ok (l,hh,m) w:=by
     cases mx with
     |none=>obtain ⟨rfl,h2⟩:=b1 rfl;exact h2
     |some y=>exact (b2 (by simp)).2
    refine ⟨.slice (some (if m=l then ⟨(ρ i).1,(ρ i).2.1+k,none⟩ else (⟨(ρ i).1,(ρ i).2.1+k,none⟩:Addr).add (l*size))) (hh-l) (m-l),?_,?_⟩
    ·by_cases hml:m=l
     ·subst hml
      rw [if_pos rfl,Nat.beq_refl,cond_true]
      exact .slice i k _ _ _ hin (qo _ _ _)
     ·have hb':Nat.beq m l=false:=by cases hq:Nat.beq m l with|true=>exact absurd (beq_true hq) hml|false=>rfl
      rw [if_neg hml,hb',cond_false,jb,Nat.add_assoc]
      exact .slice i (k+l*size) _ _ _ hin (qo _ _ _)
    ·simp [Instr.sliceAt,run_underlying hu,Instr.sureAddr,hrun,bI hs]
  ·cases hv
 ·rename_i elem i k len c hu
  split at hv
  ·rename_i l hh m size hb hs
   cases hx with
   |slice _ _ _ _ c' hin hcap=>
    have hle:jK c≤c':=by
     unfold mJ at hcap
     by_cases hc:iO c=true
     ·rw [if_pos hc] at hcap;omega
     ·rw [if_neg hc] at hcap;exact hcap.1
    obtain ⟨b1,b2,_,b4,_,b6⟩:=q9 (P:=P) (isSlice:=true) hb hle hlo hhi hmx w
    cases hc:(iO c||mx.isSome) with
    |true=>
     rw [hc,cond_true] at hv;cases hv
     have hrun:(Instr.sliceBounds true len c' lo' hi' mx').run P w= .ok (l,hh,m) w:=by
      cases mx with
      |none=>
       obtain ⟨rfl,h2⟩:=b1 rfl
       simp only [Option.isSome_none,Bool.or_false] at hc
       unfold mJ at hcap
       rw [if_pos hc] at hcap
       rw [hcap] at h2 ⊢;exact h2
      |some y=>exact (b2 (by simp)).2
     refine ⟨.slice (some (if m=l then ⟨(ρ i).1,(ρ i).2.1+k,none⟩ else (⟨(ρ i).1,(ρ i).2.1+k,none⟩:Addr).add (l*size))) (hh-l) (m-l),?_,?_⟩
     ·by_cases hml:m=l
      ·subst hml
       rw [if_pos rfl,Nat.beq_refl,cond_true]
       exact .slice i k _ _ _ hin (qo _ _ _)
      ·have hb':Nat.beq m l=false:=by cases hq:Nat.beq m l with|true=>exact absurd (beq_true hq) hml|false=>rfl
       rw [if_neg hml,hb',cond_false,jb,Nat.add_assoc]
       exact .slice i (k+l*size) _ _ _ hin (qo _ _ _)
     ·by_cases hml:m=l
      ·simp [Instr.sliceAt,Instr.slice,run_underlying hu,hrun,bI hs,hml]
      ·simp [Instr.sliceAt,Instr.slice,run_underlying hu,hrun,bI hs,hml]
    |false=>
     rw [hc,cond_false] at hv
     simp only [Bool.or_eq_false_iff] at hc
     cases mx with
     |some y=>simp at hc
     |none=>
      obtain ⟨rfl,h2⟩:=b1 rfl
      have hex:¬(iO c=true):=by rw [hc.1];simp
      unfold mJ at hcap
      rw [if_neg hex] at hcap
      cases hq:((Nat.beq l 0||Nat.blt l (jK c))&&Nat.beq size (lH c)) with
      |false=>rw [hq] at hv;cases hv
      |true=>
       rw [hq,cond_true] at hv;cases hv
       simp only [Bool.and_eq_true,Bool.or_eq_true] at hq
       have hsz:=beq_true hq.2
       have hlt:l=0∨l<jK c:=hq.1.imp beq_true Nat.le_of_ble_eq_true
       have h32:=WM hc.1
       have hl':l≤c':=by omega
       refine ⟨.slice (some ⟨(ρ i).1,(ρ i).2.1+(k+l*size),none⟩) (hh-l) (c'-l),?_,?_⟩
       ·refine .slice i (k+l*size) _ _ _ hin (yE (by omega) (by omega) ?_)
        have:l*size+(c'-l)*size=c'*size:=by rw [←Nat.add_mul];congr 1;omega
        have h3:=hcap.2
        rw [←hsz] at h3
        omega
       ·have aei:(if c'=l then (some ⟨(ρ i).1,(ρ i).2.1+k,none⟩:Option Addr) else (some ⟨(ρ i).1,(ρ i).2.1+k,none⟩:Option Addr).map (·.add (l*size)))=some ⟨(ρ i).1,(ρ i).2.1+(k+l*size),none⟩:=by
         rcases hlt with rfl|hlt
         ·split
          ·simp
          ·simp [jb]
         ·rw [if_neg (by omega)];simp [jb,Nat.add_assoc]
        simp only [Instr.sliceAt,Instr.slice,run_underlying hu,Sem.run_bind,Result.andThen,h2,bI hs,aei,Sem.run_pure]
  ·cases hv
 ·rename_i elem len c hu
  split at hv
  ·rename_i l hh m size hb hs
   cases hv
   cases hx
   obtain ⟨b1,b2,_,_,_,_⟩:=q9 (P:=P) (isSlice:=true) hb (Nat.le_refl _) hlo hhi hmx w
   have hrun:(Instr.sliceBounds true len c lo' hi' mx').run P w= .ok (l,hh,m) w:=by
    cases mx with
    |none=>obtain ⟨rfl,h2⟩:=b1 rfl;exact h2
    |some y=>exact (b2 (by simp)).2
   refine ⟨.slice none (hh-l) (m-l),.kG _ _,?_⟩
   simp [Instr.sliceAt,Instr.slice,run_underlying hu,hrun,bI hs]
  ·cases hv
 ·cases hv
theorem Tz {t:TypeId} {x:Operand} {lo hi mx:Option Operand} {v:Value} (hv:zR P G tm t x lo hi mx=some v):
 ∃ v',VR h.nx ρ v v'∧(Instr.sliceAt t (ak tmps x) (lo.map (ak tmps)) (hi.map (ak tmps)) (mx.map (ak tmps))).run P w= .ok v' w:=by
 unfold zR at hv
 split at hv
 ·rename_i s hx
  have vx:=av hr ht hx
  generalize ak tmps x=x' at vx
  split at hv
  ·rename_i hu
   split at hv
   ·rename_i l hh m hb
    cases hv;cases vx
    obtain ⟨b1,_⟩:=q9 (P:=P) (isSlice:=false) hb (Nat.le_refl _) (uk (x:=lo) hr ht rfl) (uk (x:=hi) hr ht rfl) (mx':=none) trivial w
    obtain ⟨rfl,h2⟩:=b1 rfl
    exact ⟨_,.string _,by simp [Instr.sliceAt,Instr.slice,run_underlying hu,h2]⟩
   ·cases hv
  ·cases hv
 ·rename_i a hne hx
  exact Ty hv (av hr ht hx) (uk hr ht rfl) (uk hr ht rfl) (uk hr ht rfl) w
 ·cases hv
omit hr ht in
omit [aa] in
theorem rq {α:Type} {a:Array α} {x:α} (h:a.toList=[x]):a= #[x]:=Array.toList_inj.1 h
theorem WO {c:Call} {v:Value} (hv:Gt P G tm h c=some v) (o:Oper) (ho:o.op= .call c):
 ∃ v',VR h.nx ρ v v'∧(execOp (ak tmps) o).run P w= .ok (.value v') w:=by
 obtain ⟨callee,args,ats⟩:=c
 unfold Gt at hv
 simp only at hv
 split at hv
 ·rename_i b
  have key:∀ (s:Array TypeId→TypeId→Array Value→Sem Value) (v':Value),(∀ ty,(s ats ty (args.map (ak tmps))).run P w= .ok v' w)→
   (∀ ty cs,builtin b ats ty cs (args.map (ak tmps))=(do pure (.value (←s ats ty (args.map (ak tmps))))))→
   (execOp (ak tmps) o).run P w= .ok (.value v') w:=by
   intro s v' h1 h2
   simp only [execOp,ho,resolve,Sem.run_bind,Sem.run_pure,Result.andThen,invoke,h2,h1]
  unfold ug at hv
  split at hv
  ·split at hv
   ·rename_i x t hx hT
    have e1:args.map (ak tmps)= #[ak tmps x]:=by rw [rq (a:=args) hx];simp
    have e2:ats= #[t]:=rq hT
    obtain ⟨v',h1,h2⟩:=Rj hr ht hv 0
    refine ⟨v',h1,key Builtin.len_ v' ?_ (fun _ _=>rfl)⟩
    intro ty
    obtain ⟨v'',_,h4⟩:=Rj hr ht hv ty
    rw [e1,e2]
    exact h2
   ·cases hv
  ·split at hv
   ·rename_i x t hx hT
    have e1:args.map (ak tmps)= #[ak tmps x]:=by rw [rq (a:=args) hx];simp
    have e2:ats= #[t]:=rq hT
    obtain ⟨v',h1,h2⟩:=aaa hr ht hv 0
    refine ⟨v',h1,key Builtin.cap_ v' ?_ (fun _ _=>rfl)⟩
    intro ty
    rw [e1,e2]
    exact h2
   ·cases hv
  ·obtain ⟨v',h1,h2⟩:=Dv hr ht hv 0
   exact ⟨v',h1,key Builtin.min_ v' (fun ty=>h2) (fun _ _=>rfl)⟩
  ·obtain ⟨v',h1,h2⟩:=Dv hr ht hv 0
   exact ⟨v',h1,key Builtin.max_ v' (fun ty=>h2) (fun _ _=>rfl)⟩
  ·cases hv
 ·cases hv
theorem aab {v:Value} (o:Oper) (hv:mq P G tm h o.op=some v):
 ∃ v',VR h.nx ρ v v'∧(execOp (ak tmps) o).run P w= .ok (.value v') w:=by
 have pull:∀ {s:Sem Value},(∃ v',VR h.nx ρ v v'∧s.run P w= .ok v' w)→execOp (ak tmps) o=(do pure (.value (←s)))→∃ v',VR h.nx ρ v v'∧(execOp (ak tmps) o).run P w= .ok (.value v') w:=
  fun ⟨v',h1,h2⟩ he=>⟨v',h1,by rw [he];exact Z9 h2⟩
 cases ho:o.op<;>rw [ho] at hv<;>simp only [mq] at hv
 case move x=>exact ⟨_,av hr ht hv,by simp [execOp,ho]⟩
 case assign x=>exact ⟨_,av hr ht hv,by simp [execOp,ho]⟩
 case pick c a b=>obtain ⟨v',h1,h2⟩:=WE hr ht hv;exact ⟨v',h1,by simp only [execOp,ho];exact h2⟩
 case build t parts=>exact pull (Tk hr ht hv) (by simp only [execOp,ho])
 case load t x=>exact pull (WH hr ht hv) (by simp only [execOp,ho])
 case nilCheck x=>exact IG hr ht hv o ho
 case binOp op t x y u=>exact pull (Tt hr ht hv) (by simp only [execOp,ho])
 case unOp op t x=>exact pull (WN hr ht hv) (by simp only [execOp,ho])
 case convert s d x=>exact pull (Lf hr ht hv) (by simp only [execOp,ho])
 case makeInterface t x=>exact pull (yF hr ht hv) (by simp only [execOp,ho])
 case makeFunc fn a b=>exact pull (IJ hr ht hv) (by simp only [execOp,ho])
 case slice t x lo hi mx=>exact pull (Tz hr ht hv) (by simp only [execOp,ho])
 case fieldAddr s x f=>exact pull (FJ hr ht hv) (by simp only [execOp,ho])
 case field s x f=>exact pull (Tu hr ht hv) (by simp only [execOp,ho])
 case indexAddr t x ix=>exact pull (FK hr ht hv) (by simp only [execOp,ho])
 case index t x ix=>exact pull (Tv hr ht hv) (by simp only [execOp,ho])
 case lookup t x ix ok=>exact pull (OM hr ht hv) (by simp only [execOp,ho])
 case extract x i=>exact pull (Lg hr ht hv) (by simp only [execOp,ho])
 case entry x=>exact pull (Tx hr ht hv) (by simp only [execOp,ho])
 case call c=>exact WO hr ht hv o ho
 all_goals cases hv
end
end Go.CE
namespace Go.CE
open Go Go.RowKit
variable [aa]
variable {P:Program} {G:Nat} {h:H} {ρ:Ren} {w:World} {tm:TV} {tmps:Array Value}
theorem jV.row {m:Nat} {σ:Ren} {id:Nat} {cs:List Value} {c:Array Value} (e:TypeId) {b:Nat} (hv:V2 m σ cs c.toList) (hid:σ id=(b,0,c.size)):jV m σ id (.cells cs) (.cells c e (0,0)):=by
 refine .cells cs c e (0,0) (by rw [hid]) (by rw [hid];have:=hv.1;simp at this;simp [this]) ?_ (.inl rfl)
 intro j x hx
 obtain ⟨y,h1,h2⟩:=hv.get hx
 exact ⟨y,by rw [hid];simpa using h1,h2⟩
theorem V2.mono' {n m:Nat} {ρ σ:Ren} {l l':List Value} (h:V2 n ρ l l') (hn:n≤m) (hσ:Agree n ρ σ):V2 m σ l l':=L2.mono h fun _ _ r=>r.mono hn hσ
omit [aa] in
theorem IL {m:Nat} {σ:Ren} {id b z:Nat} (hm:id<m) (hid:σ id=(b,0,z)):In m σ id:=⟨hm,by rw [hid];exact Nat.zero_le _⟩
theorem yI {m:Nat} {σ:Ren} {id b z:Nat} (hm:id<m) (hid:σ id=(b,0,z)):VR m σ (.pointer (some ⟨id,0,none⟩)) (.pointer (some ⟨b,0,none⟩)):=by
 have:=VR.ptr (n:=m) (ρ:=σ) id 0 (IL hm hid)
 rw [hid] at this;exact this
theorem vE {m:Nat} {σ:Ren} {id b z l c c':Nat} (hm:id<m) (hid:σ id=(b,0,z)) (hc:mJ z 0 c c'):VR m σ (.slice (some ⟨id,0,none⟩) l c) (.slice (some ⟨b,0,none⟩) l c'):=by
 have:=VR.slice (n:=m) (ρ:=σ) id 0 l c c' (IL hm hid) (by rw [hid];exact hc)
 rw [hid] at this;exact this
def GG (P:Program) (h:H) (ρ:Ren) (w:World) (id:Nat) (v:Value) (ob:aJ) (s:Sem Value):Prop:=
 ∃ v' Rk z,s.run P w= .ok v' (w.alloc Rk)∧∀ m σ,id<m→h.nx≤m→Agree h.nx ρ σ→σ id=(w.heap.size,0,z)→VR m σ v v'∧jV m σ id ob Rk
omit [aa] in
theorem OO (f:Nat→Value):(Array.range 0).map f= #[]:=by apply Array.toList_inj.1;simp
theorem yJ {n:Nat} {ρ:Ren} {z:Value} (hz:af 6 z=true) (k:Nat):
 V2 n ρ ((List.range k).map fun i=>z.cells[i%z.cells.size]!) ((List.range k).map fun i=>z.cells[i%z.cells.size]!):=by
 refine ⟨rfl,fun i x y hx hy=>?_⟩
 rw [hx] at hy;cases hy
 obtain ⟨j,_,rfl⟩:=List.mem_map.1 (List.mem_of_getElem? hx)
 have hc:=(eO (n:=n) (ρ:=ρ) 6 z hz).cells
 by_cases hlt:j%z.cells.size<z.cells.size
 ·have h1:z.cells.toList[j%z.cells.size]? =some z.cells[j%z.cells.size]! :=by
   rw [Array.getElem?_toList,getElem!_pos z.cells _ hlt,getElem?_pos z.cells _ hlt]
  exact hc.2 _ _ _ h1 h1
 ·rw [getElem!_neg z.cells _ hlt]
  exact .bool false
section
variable (hr:HR G h ρ w) (ht:TR h.nx ρ tm tmps)
include hr ht
omit hr ht in
theorem TA {id:Nat} {elem:TypeId} {v:Value} {ob:aJ} (hv:Di P id elem=some (v,ob)):GG P h ρ w id v ob (Instr.alloc elem true (.tuple #[])):=by
 unfold Di at hv
 split at hv
 ·rename_i z hz
  cases hv
  obtain ⟨h1,h2⟩:=j4 hz w
  refine ⟨.pointer (some ⟨w.heap.size,0,none⟩),.cells z.cells elem (0,0),z.cells.size,?_,?_⟩
  ·simp only [Instr.alloc,Sem.run_bind,h1,Result.andThen,newVar,newRow,run_newObj,Sem.run_pure];rfl
  ·intro m σ hm _ _ hid
   exact ⟨yI hm hid,jV.row elem (eO 6 z h2).cells hid⟩
 ·cases hv
theorem aac {id:Nat} {elem:TypeId} {x:Operand} {v:Value} {ob:aJ} (hv:WC G tm id x=some (v,ob)):GG P h ρ w id v ob (Instr.box elem (ak tmps x)):=by
 unfold WC at hv
 split at hv
 ·rename_i z hz
  cases hv
  have vx:=av hr ht hz
  refine ⟨.pointer (some ⟨w.heap.size,0,none⟩),.cells (ak tmps x).cells elem (0,0),(ak tmps x).cells.size,?_,?_⟩
  ·simp only [Instr.box,newVar,newRow,Sem.run_bind,Result.andThen,run_newObj,Sem.run_pure];rfl
  ·intro m σ hm hn hag hid
   exact ⟨yI hm hid,jV.row elem (V2.mono' vx.cells hn hag) hid⟩
 ·cases hv
theorem Dw {id:Nat} {t:TypeId} {len:Nat} {parts:Array (Nat×Operand)} {v:Value} {ob:aJ} (hv:j3 P G tm id t len parts=some (v,ob)):
 GG P h ρ w id v ob (Instr.buildSlice t len (parts.map fun x=>(x.1,ak tmps x.2))):=by
 unfold j3 at hv
 split at hv
 ·rename_i elem vs hu hvs
  split at hv
  ·rename_i size z hs hz
   split at hv
   ·rename_i cells hf
    cases hv
    unfold K3 at hf
    cases hb:(Nat.ble (len*size) 16777216&&Nat.blt 0 size&&Nat.beq z.cells.size size) with
    |false=>rw [hb] at hf;cases hf
    |true=>
     rw [hb,cond_true] at hf
     simp only [Bool.and_eq_true] at hb
     have hle:len*size≤16777216:=Nat.le_of_ble_eq_true hb.1.1
     obtain ⟨hz1,hz2⟩:=j4 hz w
     have WG:=OH (tmps:=tmps) parts.toList vs (jm hr ht _ _ hvs)
     have hbase:V2 h.nx ρ ((Array.range (len*size)).map (z.cells[· %z.cells.size]!)).toList ((Array.range (len*size)).map (z.cells[· %z.cells.size]!)).toList:=by
      have:=yJ (n:=h.nx) (ρ:=ρ) hz2 (len*size)
      simpa using this
     obtain ⟨r',h1,h2⟩:=IE _ _ _ WG _ _ cells hbase hf
     refine ⟨.slice (some ⟨w.heap.size,0,none⟩) len len,.cells r' elem (0,0),r'.size,?_,?_⟩
     ·have hl:(parts.map fun x=>(x.1,ak tmps x.2)).toList=parts.toList.map fun x=>(x.1,ak tmps x.2):=by simp
      have hnot:¬(len*size>2^24):=by simp only [Nat.not_lt,gt_iff_lt];exact hle
      by_cases h0:len*size=0
      ·have h1':Instr.fill (fun i=>some (i*size,size)) ((Array.range (len*size)).map ((#[]:Array Value)[· %(#[]:Array Value).size]!)) (parts.toList.map fun x=>(x.1,ak tmps x.2))=some r':=by
        rw [h0,OO] at h1 ⊢;exact h1
       simp only [Instr.buildSlice,Sem.run_bind,run_underlying hu,Result.andThen,bI hs,if_neg hnot,if_pos h0,hl,Sem.run_pure]
       simp only [h1',newRow,Sem.run_bind,Result.andThen,run_newObj,Sem.run_pure]
       rfl
      ·simp only [Instr.buildSlice,Sem.run_bind,run_underlying hu,Result.andThen,bI hs,if_neg hnot,if_neg h0,hz1,hl,Sem.run_pure]
       simp only [h1,newRow,Sem.run_bind,Result.andThen,run_newObj,Sem.run_pure]
       rfl
     ·intro m σ hm hn hag hid
      exact ⟨vE hm hid (qo _ _ _),jV.row elem (V2.mono' h2 hn hag) hid⟩
   ·cases hv
  ·cases hv
 ·cases hv
theorem Lj {id:Nat} {t:TypeId} {r:Option Operand} {v:Value} {ob:aJ} (hv:qg P G tm id t r=some (v,ob)):GG P h ρ w id v ob (Instr.makeMap t (r.map (ak tmps))):=by
 unfold qg at hv
 split at hv
 ·cases hv
  refine ⟨.map (some w.heap.size),.map #[] 0,0,rfl,?_⟩
  intro m σ hm hn hag hid
  have:=VR.map (n:=m) (ρ:=σ) id (IL hm hid)
  rw [hid] at this
  exact ⟨this,.map [] 0 #[] L2.nil⟩
 ·rename_i r
  split at hv
  ·rename_i a b k n hu hx
   cases hv
   have vx:=av hr ht hx
   generalize hq:ak tmps r=x' at vx
   cases vx
   refine ⟨.map (some w.heap.size),.map #[] 0,0,?_,?_⟩
   ·simp only [Option.map_some,hq,Instr.makeMap,Sem.run_bind,run_underlying hu,Result.andThen,asInt,asIntOf,Sem.run_pure,run_newObj];rfl
   ·intro m σ hm hn hag hid
    have:=VR.map (n:=m) (ρ:=σ) id (IL hm hid)
    rw [hid] at this
    exact ⟨this,.map [] 0 #[] L2.nil⟩
  ·cases hv
theorem FL {id:Nat} {t:TypeId} {l c:Operand} {v:Value} {ob:aJ} (hv:kX P G tm id t l c=some (v,ob)):GG P h ρ w id v ob (Instr.makeSlice t (ak tmps l) (ak tmps c)):=by
 unfold kX at hv
 split at hv
 ·rename_i elem k1 ln k2 cn hu hl hc
  have vl:=av hr ht hl
  have vc:=av hr ht hc
  generalize ak tmps l=l' at vl
  generalize ak tmps c=c' at vc
  cases vl;cases vc
  split at hv
  ·rename_i size z hs hz
   cases hb:(decide (0≤ln)&&decide (ln≤cn)&&decide (cn≤1048576)&&Nat.ble ((P.info? elem).elim 0 (·.bytes)) 1048576) with
   |false=>rw [hb] at hv;cases hv
   |true=>
    rw [hb,cond_true] at hv
    simp only [Bool.and_eq_true,decide_eq_true_eq] at hb
    obtain ⟨⟨⟨b1,b2⟩,b3⟩,b4⟩:=hb
    have b4:=Nat.le_of_ble_eq_true b4
    unfold Iz at hv
    cases hq:(Nat.beq z.cells.size size&&Nat.blt 0 size) with
    |false=>rw [hq] at hv;cases hv
    |true=>
     rw [hq,cond_true] at hv;cases hv
     simp only [Bool.and_eq_true] at hq
     obtain ⟨hz1,hz2⟩:=j4 hz w
     have hw1:IntKind.i64.wrap ln=ln:=IntWalk.i64_in _ (by omega)
     have hw2:IntKind.i64.wrap cn=cn:=IntWalk.i64_in _ (by omega)
     have hinfo:∃ i,P.info? elem=some i∧i.bytes≤1048576:=by
      unfold dU at hs
      cases hi:P.info? elem with
      |none=>rw [hi] at hs;cases hs
      |some i=>rw [hi] at b4;exact ⟨i,rfl,b4⟩
     obtain ⟨i,hi,hib⟩:=hinfo
     have hti:(typeInfo elem).run P w= .ok i w:=by simp [typeInfo,hi]
     refine ⟨.slice (some ⟨w.heap.size,0,none⟩) ln.toNat cn.toNat,.cells ((List.range (cn.toNat*size)).map fun i=>z.cells[i%z.cells.size]!).toArray elem (0,0),((List.range (cn.toNat*size)).map fun i=>z.cells[i%z.cells.size]!).toArray.size,?_,?_⟩
     ·have hp1:¬((i.bytes:Int)*cn>2^48):=by
       have:(i.bytes:Int)*cn≤1048576*1048576:=Int.mul_le_mul (by omega) b3 (by omega) (by omega)
       omega
      have hp2:¬(cn<0):=by omega
      have hp3:¬(ln<0):=by omega
      have hp4:¬(ln>cn):=by omega
      have hp5:(i.bytes:Int)*cn≤281474976710656:=by
       have:(i.bytes:Int)*cn≤1048576*1048576:=Int.mul_le_mul (by omega) b3 (by omega) (by omega)
       omega
      have hA:(Array.range (cn.toNat*size)).map (z.cells[· %z.cells.size]!)=((List.range (cn.toNat*size)).map fun i=>z.cells[i%z.cells.size]!).toArray:=by
       apply Array.toList_inj.1;simp
      by_cases h0:cn.toNat*size=0
      ·have hB:(Array.range (cn.toNat*size)).map ((#[]:Array Value)[· %(#[]:Array Value).size]!)=((List.range (cn.toNat*size)).map fun i=>z.cells[i%z.cells.size]!).toArray:=by
        rw [h0,OO];rfl
       simp [Instr.makeSlice,run_underlying hu,asInt,asIntOf,hti,hw1,hw2,b1,hp2,hp3,hp4,bI hs,h0,newRow]
       rw [if_neg (by omega)]
       have hC:(Array.map (fun _=>(default:Value)) (Array.range 0))=(((List.range 0).map fun i=>z.cells[i%z.cells.size]!).toArray:Array Value):=by rw [OO];rfl
       rw [hC];rfl
      ·simp [Instr.makeSlice,run_underlying hu,asInt,asIntOf,hti,hw1,hw2,b1,hp2,hp3,hp4,bI hs,h0,hz1,newRow]
       rw [if_neg (by omega)]
       first|(rw [hA];done)|(rw [hA];rfl)
     ·intro m σ hm hn hag hid
      exact ⟨vE hm hid (qo _ _ _),jV.row elem (by simpa using yJ hz2 _) hid⟩
  ·cases hv
 ·cases hv
theorem Rl {id:Nat} {v:Value} {ob:aJ} (o:Oper) (hv:zO P G tm id o.op=some (v,ob)):
 ∃ v' Rk z,(execOp (ak tmps) o).run P w= .ok (.value v') (w.alloc Rk)∧∀ m σ,id<m→h.nx≤m→Agree h.nx ρ σ→σ id=(w.heap.size,0,z)→VR m σ v v'∧jV m σ id ob Rk:=by
 have pull:∀ {s:Sem Value},GG P h ρ w id v ob s→execOp (ak tmps) o=(do pure (.value (←s)))→∃ v' Rk z,(execOp (ak tmps) o).run P w= .ok (.value v') (w.alloc Rk)∧∀ m σ,id<m→h.nx≤m→Agree h.nx ρ σ→σ id=(w.heap.size,0,z)→VR m σ v v'∧jV m σ id ob Rk:=
  fun ⟨v',Rk,z,h1,h2⟩ he=>⟨v',Rk,z,by rw [he,Sem.run_bind,h1];rfl,h2⟩
 cases ho:o.op<;>rw [ho] at hv<;>simp only [zO] at hv
 case alloc e=>exact pull (TA hv) (by simp only [execOp,ho])
 case box e x=>exact pull (aac (elem:=e) hr ht hv) (by simp only [execOp,ho])
 case buildSlice t len parts=>exact pull (Dw hr ht hv) (by simp only [execOp,ho])
 case makeMap t r=>exact pull (Lj hr ht hv) (by simp only [execOp,ho])
 case makeSlice t l c=>exact pull (FL hr ht hv) (by simp only [execOp,ho])
 all_goals cases hv
end
end Go.CE
namespace Go.CE
open Go Go.RowKit
variable [aa]
variable {P:Program} {G:Nat} {h:H} {ρ:Ren} {w:World} {tm:TV} {tmps:Array Value}
omit [aa] in
theorem TB {b o:Nat} {c:Array Value} {e:TypeId} {fz:Nat×Nat} {w:World} (hb:w.heap[b]? =some (.cells c e fz)) (hf:fz.1=fz.2∨c.size≤fz.1) (ho:o<c.size) {v:Value} (h1:v.oneCell'=true):
 (store ⟨b,o,none⟩ v).run P w= .ok () (w.setCell ⟨b,o,none⟩ v):=by
 rw [run_store P w _ v .plain h1]
 have hc:w.cell? ⟨b,o,none⟩=some c[o]:=by rw [IC hb];exact Array.getElem?_eq_getElem ho
 have hfz:w.frozen? ⟨b,o,none⟩=false:=by
  unfold World.frozen?
  rw [hb]
  simp only [Bool.and_eq_false_iff,decide_eq_false_iff_not]
  rcases hf with hf|hf
  ·by_cases hlo:fz.1≤o
   ·right;omega
   ·left;exact hlo
  ·left;omega
 simp [hc,hfz]
omit [aa] in
theorem IM {b o:Nat} {c:Array Value} {e:TypeId} {fz:Nat×Nat} {w:World} (hb:w.heap[b]? =some (.cells c e fz)) (v:Value):
 (w.setCell ⟨b,o,none⟩ v).heap[b]? =some (.cells (c.setIfInBounds o v) e fz)∧(w.setCell ⟨b,o,none⟩ v).heap.size=w.heap.size∧∀ b',b'≠b→(w.setCell ⟨b,o,none⟩ v).heap[b']? =w.heap[b']? :=by
 refine ⟨?_,by simp [World.setCell],fun b' hne=>?_⟩
 ·simp [World.setCell,Array.getElem?_modify,hb]
 ·simp only [World.setCell,Array.getElem?_modify]
  rw [if_neg (by omega)]
omit [aa] in
theorem wE {b o:Nat} {e:TypeId} {fz:Nat×Nat}:∀ (vs:List Value) (i:Nat) (c:Array Value) (w:World),w.heap[b]? =some (.cells c e fz)→(fz.1=fz.2∨c.size≤fz.1)→
 (∀ v∈vs,v.oneCell'=true)→o+i+vs.length≤c.size→
 ∃ w' c',(storeCells ⟨b,o,none⟩ vs i).run P w= .ok () w'∧w'.heap[b]? =some (.cells c' e fz)∧c'.size=c.size∧
   (∀ j,c'[j]? =if o+i≤j∧j<o+i+vs.length then vs[j-(o+i)]? else c[j]?)∧w'.heap.size=w.heap.size∧(∀ b',b'≠b→w'.heap[b']? =w.heap[b']?)∧w'.os=w.os∧w'.tape=w.tape∧w'.output=w.output:=by
 intro vs
 induction vs with
 |nil=>
  intro i c w hb hf h1 hl
  exact ⟨w,c,rfl,hb,rfl,fun j=>by rw [if_neg (by simp)],rfl,fun _ _=>rfl,rfl,rfl,rfl⟩
 |cons v vs ih=>
  intro i c w hb hf h1 hl
  simp only [List.length_cons] at hl
  have hst:=TB (P:=P) hb hf (o:=o+i) (by omega) (h1 v List.mem_cons_self)
  obtain ⟨s1,s2,s3⟩:=IM (o:=o+i) hb v
  obtain ⟨w',c',r1,r2,r3,r4,r5,r6,r7,r8,r9⟩:=ih (i+1) (c.setIfInBounds (o+i) v) (w.setCell ⟨b,o+i,none⟩ v) s1 (by simpa using hf) (fun x hx=>h1 x (List.mem_cons_of_mem _ hx)) (by simp;omega)
  refine ⟨w',c',?_,r2,by rw [r3];simp,?_,by rw [r5,s2],fun b' hne=>by rw [r6 b' hne,s3 b' hne],r7,r8,r9⟩
  ·rw [storeCells,Sem.run_bind,jb,hst];exact r1
  ·intro j
   rw [r4 j,List.length_cons]
   by_cases hj:o+(i+1)≤j∧j<o+(i+1)+vs.length
   ·rw [if_pos hj,if_pos (by omega),show j-(o+i)=(j-(o+(i+1)))+1 by omega,List.getElem?_cons_succ]
   ·rw [if_neg hj]
    by_cases he:j=o+i
    ·subst he
     rw [if_pos (by omega),Nat.sub_self,List.getElem?_cons_zero,Array.getElem?_setIfInBounds,if_pos rfl,if_pos (by omega)]
    ·rw [if_neg (by omega),Array.getElem?_setIfInBounds,if_neg (by omega)]
omit [aa] in
theorem nZ:∀ (cs:List Value) (k:Nat) (vs cs':List Value),putAt cs k vs=some cs'→
 cs'.length=cs.length∧k+vs.length≤cs.length∧∀ j,cs'[j]? =if k≤j∧j<k+vs.length then vs[j-k]? else cs[j]? :=by
 intro cs
 induction cs with
 |nil=>
  intro k vs cs' hp
  cases k with
  |zero=>
   simp only [putAt] at hp
   cases hb:Nat.ble vs.length ([]:List Value).length with
   |false=>rw [hb] at hp;cases hp
   |true=>
    rw [hb,cond_true] at hp;cases hp
    have:=Nat.le_of_ble_eq_true hb
    have hv:vs=[]:=List.length_eq_zero_iff.1 (by simpa using this)
    subst hv;simp
  |succ k=>cases hp
 |cons c cs ih=>
  intro k vs cs' hp
  cases k with
  |zero=>
   simp only [putAt] at hp
   cases hb:Nat.ble vs.length (c::cs).length with
   |false=>rw [hb] at hp;cases hp
   |true=>
    rw [hb,cond_true] at hp;cases hp
    have hle:=Nat.le_of_ble_eq_true hb
    refine ⟨by simp;simp at hle;omega,by omega,fun j=>?_⟩
    by_cases hj:j<vs.length
    ·rw [if_pos (by omega),List.getElem?_append_left hj];rfl
    ·rw [if_neg (by omega),List.getElem?_append_right (by omega),List.getElem?_drop]
     congr 1;omega
  |succ k=>
   simp only [putAt] at hp
   cases hq:putAt cs k vs with
   |none=>rw [hq] at hp;cases hp
   |some r=>
    rw [hq] at hp;cases hp
    obtain ⟨h1,h2,h3⟩:=ih k vs r hq
    refine ⟨by simp [h1],by simp;omega,fun j=>?_⟩
    cases j with
    |zero=>rw [if_neg (by omega)];rfl
    |succ j=>
     rw [List.getElem?_cons_succ,h3 j,List.getElem?_cons_succ]
     by_cases hj:k≤j∧j<k+vs.length
     ·rw [if_pos hj,if_pos (by omega)];congr 1;omega
     ·rw [if_neg hj,if_neg (by omega)]
theorem Dx {n:Nat} {v v':Value} (hv:VR n ρ v v') (h1:oneCell v=true):v'.oneCell'=true:=by
 cases hv<;>first|rfl|exact aa.one _|cases h1
theorem Dy (hr:HR G h ρ w) {i k:Nat} {vs vs':List Value} {h':H} (hw:h.write G i k vs=some h') (hv:V2 h.nx ρ vs vs'):
 h'.nx=h.nx∧∃ w',(storeCells ⟨(ρ i).1,(ρ i).2.1+k,none⟩ vs').run P w= .ok () w'∧HR G h' ρ w'∧Tr G h h' ρ ρ w w':=by
 unfold H.write at hw
 cases hb:(Nat.ble G i&&vs.all oneCell) with
 |false=>rw [hb] at hw;cases hw
 |true=>
  rw [hb,cond_true] at hw
  simp only [Bool.and_eq_true] at hb
  have hG:G≤i:=Nat.le_of_ble_eq_true hb.1
  cases hc:h.cells i with
  |none=>rw [hc] at hw;cases hw
  |some cs=>
   rw [hc] at hw;simp only at hw
   cases hp:putAt cs k vs with
   |none=>rw [hp] at hw;cases hw
   |some cs'=>
    rw [hp] at hw;cases hw
    obtain ⟨p1,p2,p3⟩:=nZ cs k vs cs' hp
    have hget:=nX hc
    obtain ⟨hi,ob,ji,iD⟩:=hr.obj i _ hget
    cases iD with
    |cells _ c e fz hz hl hcv hf=>
     have hone:∀ v∈vs',v.oneCell'=true:=by
      intro v hv'
      obtain ⟨j,hj⟩:=List.getElem?_of_mem hv'
      have hjl:j<vs.length:=by rw [hv.1];exact (List.getElem?_eq_some_iff.1 hj).1
      have:=hv.2 j vs[j] v (List.getElem?_eq_getElem hjl) hj
      exact Dx this (List.all_eq_true.1 hb.2 _ (List.getElem_mem hjl))
     obtain ⟨w',c',r1,r2,r3,r4,r5,r6,r7,r8,r9⟩:=wE (P:=P) (o:=(ρ i).2.1+k) vs' 0 c w ji hf hone (by rw [←hv.1];omega)
     refine ⟨rfl,w',r1,?_⟩
     refine hr.put hget hG (.cells cs') r5 r6 r2 r7 r8 r9 ?_
     refine .cells cs' c' e fz (by rw [r3];exact hz) (by rw [r3,p1];exact hl) ?_ (by rw [r3];exact hf)
     intro j x hx
     rw [p3 j] at hx
     by_cases hj:k≤j∧j<k+vs.length
     ·rw [if_pos hj] at hx
      obtain ⟨y,h1,h2⟩:=hv.get hx
      refine ⟨y,?_,h2⟩
      rw [r4,if_pos (by rw [←hv.1];omega),←h1];congr 1;omega
     ·rw [if_neg hj] at hx
      obtain ⟨y,h1,h2⟩:=hcv j x hx
      refine ⟨y,?_,h2⟩
      rw [r4,if_neg (by rw [←hv.1];omega)];exact h1
def TC (P:Program) (G:Nat) (h h':H) (ρ:Ren) (w:World) (v:Value) (s:Sem Next):Prop:=
 ∃ next v' ρ' w',s.run P w= .ok next w'∧(next= .value v'∨(next= .skip∧v'=undef))∧VR h'.nx ρ' v v'∧HR G h' ρ' w'∧Tr G h h' ρ ρ' w w'
def ru (n:Nat) (ρ:Ren) (d d':Deferred):Prop:=
 V2 n ρ d.args.toList d'.args.toList∧((∃ b,d.target= .collected b∧In n ρ b∧d'.target= .collected (ρ b).1)∨∃ g c c',d.target= .fn (.func g) c∧d'.target= .fn (.func g) c'∧V2 n ρ c.toList c'.toList)
def mU (P:Program) (G:Nat) (h:H) (ρ:Ren) (w:World) (s:Sem Next):LR→Prop
 | .val v h'=>TC P G h h' ρ w v s
 | .enter f args=>∃ args',s.run P w= .ok (.enter f args') w∧V2 h.nx ρ args args'.toList
 | .round l args=>In h.nx ρ l∧∃ args',s.run P w=(Instr.yield (ρ l).1 args').run P w∧V2 h.nx ρ args args'.toList
 | .defer d=>∃ d',s.run P w= .ok (.defer d') w∧ru h.nx ρ d d'
 | .recover=>s.run P w= .ok .recover w
omit [aa] in
theorem og {r:Nat} {o o':Obj} {w:World} (hr:w.heap[r]? =some o) (hc:∀ c e f,o≠ .cells c e f):(setObj r o').run P w= .ok () {w with heap:=w.heap.setIfInBounds r o'}:=by
 unfold setObj
 cases o with
 |cells c e f=>exact absurd rfl (hc c e f)
 |_=>simp only [Sem.run,hr]
omit [aa] in
theorem lZ {r:Nat} {o':Obj} {w:World} (hlt:r<w.heap.size):(w.heap.setIfInBounds r o').size=w.heap.size∧(w.heap.setIfInBounds r o')[r]? =some o'∧∀ b,b≠r→(w.heap.setIfInBounds r o')[b]? =w.heap[b]? :=by
 refine ⟨by simp,by rw [Array.getElem?_setIfInBounds,if_pos rfl,if_pos hlt],fun b hb=>by rw [Array.getElem?_setIfInBounds,if_neg (by omega)]⟩
omit [aa] in
theorem Aa {v:Value} {r:Nat} {es:List MapEntry} {clock:Nat} (hm:mapA G h v=some (r,es,clock)):v= .map (some r)∧h.hp.get r=some (.map es clock)∧G≤r:=by
 unfold mapA at hm
 split at hm
 ·rename_i r0
  split at hm
  ·rename_i es0 c0 hg
   cases hb:Nat.ble G r0 with
   |false=>rw [hb] at hm;cases hm
   |true=>rw [hb,cond_true] at hm;cases hm;exact ⟨rfl,hg,Nat.le_of_ble_eq_true hb⟩
  ·cases hm
 ·cases hm
theorem oW (hr:HR G h ρ w) {r:Nat} {es:List MapEntry} {clock:Nat} (hm:h.hp.get r=some (.map es clock)) (hG:G≤r) {fs:List MapEntry} {fs':Array MapEntry} (hl:L2 (oI h.nx ρ) fs fs'.toList) (c':Nat):
 (setObj (ρ r).1 (.map fs' c')).run P w= .ok () {w with heap:=w.heap.setIfInBounds (ρ r).1 (.map fs' c')}∧
 HR G (h.put r (some (.map fs c'))) ρ {w with heap:=w.heap.setIfInBounds (ρ r).1 (.map fs' c')}∧Tr G h (h.put r (some (.map fs c'))) ρ ρ w {w with heap:=w.heap.setIfInBounds (ρ r).1 (.map fs' c')}:=by
 obtain ⟨es',ji,_,_⟩:=nY hr hm rfl
 have hlt:=hr.lt hm
 obtain ⟨s1,s2,s3⟩:=lZ (o':= .map fs' c') hlt
 refine ⟨og ji (fun _ _ _=>by simp),hr.put hm hG (.map fs c') s1 s3 s2 rfl rfl rfl (.map fs c' fs' hl)⟩
end Go.CE
namespace Go.CE
open Go Go.RowKit
variable [aa]
variable {P:Program} {G:Nat} {h:H} {ρ:Ren} {w:World} {tm:TV} {tmps:Array Value}
omit [aa] in
theorem OP (w:World) (C:Array Value) (e:TypeId) (n:Nat):(w.alloc (.cells C e (0,0))).freeze ⟨w.heap.size,n,none⟩ 1=w.alloc (.cells C e (n,n+1)):=by
 unfold World.freeze World.alloc
 rw [if_neg (by decide)]
 congr 1
 apply Array.ext_getElem?
 intro i
 rw [Array.getElem?_modify]
 by_cases h:w.heap.size=i
 ·subst h;simp
 ·rw [if_neg h,Array.getElem?_push,Array.getElem?_push,if_neg (by omega),if_neg (by omega)]
theorem OQ (hr:HR G h ρ w) (o:aJ) (ob:Obj) (z:Nat) (ho:jV (h.nx+1) (upd ρ h.nx (w.heap.size,0,z)) h.nx o ob) {v v':Value} {next:Next} {s:Sem Next}
 (hrun:s.run P w= .ok next (w.alloc ob)) (hn:next= .value v'∨(next= .skip∧v'=undef)) (hv:VR (h.nx+1) (upd ρ h.nx (w.heap.size,0,z)) v v'):TC P G h (h.new o) ρ w v s:=
 let ⟨a,b⟩:=hr.new o ob z ho
 ⟨next,v',_,_,hrun,hn,hv,a,b⟩
section
variable (hr:HR G h ρ w) (ht:TR h.nx ρ tm tmps)
include hr ht
theorem TD {t:TypeId} {a x:Operand} {r:LR} (hv:mD P G tm h t a x=some r):
 mU P G h ρ w (do Instr.storeAt t (ak tmps a) (ak tmps x);pure .skip) r:=by
 unfold mD at hv
 split at hv
 ·rename_i i k v n ha hx hn
  have va:=av hr ht ha
  have vx:=av hr ht hx
  generalize ak tmps a=a' at va
  generalize ak tmps x=x' at vx
  cases hb:Nat.beq v.cells.size n with
  |false=>rw [hb] at hv;cases hv
  |true=>
   rw [hb,cond_true] at hv
   have hbs:=beq_true hb
   split at hv
   ·rename_i h' hw
    cases hv
    obtain ⟨hnx,w',r1,r2,r3⟩:=Dy (P:=P) hr hw vx.cells
    cases va with
    |ptr _ _ hi=>
     refine ⟨.skip,undef,ρ,w',?_,.inr ⟨rfl,rfl⟩,VR.undef,r2,r3⟩
     have hsz:x'.cells.size=n:=by rw [vx.Dq];exact hbs
     simp [Instr.storeAt,Instr.sureAddr,storeVar,bI hn,hsz,r1]
   ·cases hv
 ·cases hv
theorem Ll {s d:TypeId} {x:Operand} {r:LR} (hv:ql P G tm h s d x=some r):
 mU P G h ρ w (do pure (.value (←convert s d (ak tmps x)))) r:=by
 unfold ql at hv
 split at hv
 ·rename_i e b hs hd hx
  have vx:=av hr ht hx
  generalize ak tmps x=x' at vx
  split at hv
  ·rename_i he
   cases hb:Nat.ble b.size 1048576 with
   |false=>rw [hb] at hv;cases hv
   |true=>
    rw [hb,cond_true] at hv;cases hv
    have hsz:=Nat.le_of_ble_eq_true hb
    cases vx
    have hcap:b.size≤(Question.appendCap b.size 0 e).cut (w.tape w.drawn (.appendCap b.size 0 e)):=Nat.le_add_right _ _
    have yK:(Question.appendCap b.size 0 e).forced=false:=rfl
    generalize hq:(Question.appendCap b.size 0 e).cut (w.tape w.drawn (.appendCap b.size 0 e))=cap at hcap
    obtain ⟨C,hC⟩:∃ C:Array Value,C=(b.data.map fun b=>Value.int .u8 b.toNat)++Array.replicate (cap-b.size) (.int .u8 0):=⟨_,rfl⟩
    have hCs:C.size=cap:=by rw [hC];simp;have:b.data.size=b.size:=rfl;omega
    have hr1:HR G h ρ {w with drawn:=w.drawn+1}:=hr.drew rfl
    have hrun:(convert s d (.string b)).run P w= .ok (.slice (some ⟨w.heap.size,0,none⟩) b.size cap) ((({w with drawn:=w.drawn+1}:World).alloc (.cells C e (0,0))).freeze ⟨w.heap.size,C.size,none⟩ 1):=by
     have hsh:((({w with drawn:=w.drawn+1}:World).alloc (.cells C e (0,0)))).shape? w.heap.size=some (e,C.size):=by
      unfold World.shape?
      rw [show ((({w with drawn:=w.drawn+1}:World).alloc (.cells C e (0,0)))).heap[w.heap.size]? =some (.cells C e (0,0)) from by show (w.heap.push _)[w.heap.size]? =_;simp]
     simp only [convert,Sem.run_bind,run_underlying hs,run_underlying hd,run_underlying he,Result.andThen,Conv.stringToBytes,run_choose,yK,Bool.false_eq_true,if_false,hq,newRow,run_newObj,Sem.run_pure,markStringish,run_shape,←hC]
     have hsh':=hsh
     unfold World.alloc at hsh'
     rw [hsh']
     rfl
    rw [OP] at hrun
    have hbl:b.data.size=b.size:=rfl
    have hco:mJ C.size 0 (mH b.size 1) cap:=yE (by omega) hcap (by omega)
    have hnew:=hr1.new (.cells (b.data.toList.map fun c=>Value.int .u8 c.toNat)) (.cells C e (C.size,C.size+1)) C.size (by
     refine .cells _ C e _ (by rw [upd_same]) (by rw [upd_same];simp;omega) ?_ (.inr (Nat.le_refl _))
     intro j x hx
     rw [upd_same]
     rw [List.getElem?_map] at hx
     cases hj:b.data.toList[j]? with
     |none=>rw [hj] at hx;cases hx
     |some y=>
      rw [hj] at hx;cases hx
      refine ⟨_,?_,.int _ _⟩
      have hjl:j<b.data.size:=by have:=(List.getElem?_eq_some_iff.1 hj).1;simpa using this
      rw [hC,Nat.zero_add,Array.getElem?_append_left (by simpa using hjl),Array.getElem?_map]
      have:b.data[j]? =some y:=by simpa using hj
      rw [this];rfl)
    refine ⟨.value (.slice (some ⟨w.heap.size,0,none⟩) b.size cap),_,_,_,?_,.inl rfl,?_,hnew.1,(Tr.drew (w:=w) (w':={w with drawn:=w.drawn+1}) G h ρ rfl rfl rfl rfl).trans hnew.2⟩
    ·rw [Sem.run_bind,hrun];rfl
    ·exact vE (Nat.lt_succ_self _) (upd_same _ _ _) hco
  ·cases hv
 ·rename_i e0 e i k len c hs hd hx
  have vx:=av hr ht hx
  generalize ak tmps x=x' at vx
  split at hv
  ·rename_i cs he hc
   cases hb:(Nat.beq s d&&Nat.ble G i) with
   |false=>rw [hb] at hv;cases hv
   |true=>
    rw [hb,cond_true] at hv;cases hv
    simp only [Bool.and_eq_true] at hb
    obtain rfl:=beq_true hb.1
    have hG:G≤i:=Nat.le_of_ble_eq_true hb.2
    have hget:=nX hc
    obtain ⟨hi,ob,ji,iD⟩:=hr.obj i _ hget
    have hlt:=hr.lt hget
    cases iD with
    |cells _ c e' fz hz hl hcv hf=>
     cases vx with
     |slice _ _ _ _ c' hin hcap=>
      have hsh:w.shape? (ρ i).1=some (e',c.size):=by simp [World.shape?,ji]
      obtain ⟨lo,hi'⟩:=fz
      have hfr:(w.freeze ⟨(ρ i).1,c.size,none⟩ 1).heap[(ρ i).1]? =some (.cells c e' (if lo==hi' then (c.size,c.size+1) else (min lo c.size,max hi' (c.size+1))))∧
       (w.freeze ⟨(ρ i).1,c.size,none⟩ 1).heap.size=w.heap.size∧∀ b,b≠(ρ i).1→(w.freeze ⟨(ρ i).1,c.size,none⟩ 1).heap[b]? =w.heap[b]? :=by
       refine ⟨?_,by simp [World.freeze],fun b hne=>?_⟩
       ·simp [World.freeze,Array.getElem?_modify,ji]
       ·simp only [World.freeze,if_neg (show ¬(1=0) by decide),Array.getElem?_modify]
        rw [if_neg (by omega)]
      refine ⟨.value (.slice (some ⟨(ρ i).1,(ρ i).2.1+k,none⟩) len c'),_,ρ,w.freeze ⟨(ρ i).1,c.size,none⟩ 1,?_,.inl rfl,.slice i k len _ c' hin hcap,?_⟩
      ·simp [convert,run_underlying hd,run_underlying he,markStringish,hsh]
      ·refine hr.put hget hG (.cells cs) hfr.2.1 hfr.2.2 hfr.1 rfl rfl rfl (.cells cs c e' _ hz hl hcv ?_)
       simp only at hf
       split
       ·right;exact Nat.le_refl _
       ·rename_i hne
        rcases hf with hf|hf
        ·subst hf;simp at hne
        ·right;exact Nat.le_min.2 ⟨hf,Nat.le_refl _⟩
  ·cases hv
 ·cases hv
end
end Go.CE
namespace Go.CE
open Go Go.RowKit
variable [aa]
variable {P:Program} {G:Nat} {h:H} {ρ:Ren} {w:World} {tm:TV} {tmps:Array Value}
omit [aa] in
theorem L2.modify {α β:Type} {R:α→β→Prop} {l:List α} {m:List β} (hl:L2 R l m) {i:Nat} {a:α} {f:β→β} (hr:∀ y,m[i]? =some y→R a (f y)):L2 R (l.set i a) (m.modify i f):=
 ⟨by simp [hl.1],fun j x y hx hy=>by
   rw [List.getElem?_set] at hx
   rw [List.getElem?_modify] at hy
   by_cases hj:i=j
   ·subst hj
    rw [if_pos rfl] at hx
    simp only [if_true] at hy
    cases hm:m[i]? with
    |none=>rw [hm] at hy;cases hy
    |some z=>
     rw [hm] at hy;cases hy
     have hlt:i<l.length:=by rw [hl.1];exact (List.getElem?_eq_some_iff.1 hm).1
     rw [if_pos hlt] at hx;cases hx
     exact hr z hm
   ·rw [if_neg hj] at hx
    simp only [if_neg hj] at hy
    exact hl.2 j x y hx (by simpa using hy)⟩
omit [aa] in
theorem rM {a b:Value} (h:Instr.sameBits 10000 a b=true) (w:World):(Instr.keyThatStays a b).run P w= .ok b w:=by
 unfold Instr.keyThatStays;rw [if_pos h];rfl
section
variable (hr:HR G h ρ w) (ht:TR h.nx ρ tm tmps)
include hr ht
theorem wZ {m:Operand} {r:Nat} {es:List MapEntry} {clock:Nat} (hm:(ax G tm m).bind (mapA G h)=some (r,es,clock)):
 ak tmps m= .map (some (ρ r).1)∧h.hp.get r=some (.map es clock)∧G≤r:=by
 cases ha:ax G tm m with
 |none=>rw [ha] at hm;cases hm
 |some v=>
  rw [ha,Option.bind_some] at hm
  obtain ⟨rfl,h1,h2⟩:=Aa hm
  have:=av hr ht ha
  refine ⟨?_,h1,h2⟩
  generalize ak tmps m=m' at this;cases this;rfl
theorem wF {t:TypeId} {m k x:Operand} {r:LR} (hv:iY P G tm h t m k x=some r):
 mU P G h ρ w (do Instr.mapUpdate t (ak tmps m) (ak tmps k) (ak tmps x);pure .skip) r:=by
 unfold iY at hv
 split at hv
 ·rename_i kt et r0 es clock k0 x0 hu hm hk hx
  obtain ⟨e1,h1,hG⟩:=wZ hr ht hm
  have vk:=av hr ht hk
  have vx:=av hr ht hx
  rw [e1]
  generalize ak tmps k=k' at vk
  generalize ak tmps x=x' at vx
  obtain ⟨es',ji,hl,hlt⟩:=nY hr h1 rfl
  have hgo:=run_getObj_map (P:=P) ji
  cases hf:oO P false kt k0 es with
  |none=>rw [hf] at hv;cases hv
  |some f=>
   obtain ⟨rfl,f1,fall,r',f2,f3,f4⟩:=yH hf vk hl w
   rw [hf] at hv
   cases f with
   |some i=>
    simp only at hv
    cases r' with
    |none=>cases f3
    |some jv=>
     obtain ⟨j,v0⟩:=jv
     simp only [Option.map_some,Option.some.injEq] at f3;subst f3
     cases he:es[j]? with
     |none=>rw [he] at hv;cases hv
     |some e=>
      rw [he] at hv;simp only at hv
      cases hb:Instr.sameBits 10000 e.key k' with
      |false=>rw [hb] at hv;cases hv
      |true=>
       rw [hb,cond_true] at hv;cases hv
       obtain ⟨e',h5,h6⟩:=hl.get he
       have hkey:e'.key=e.key:=nW 6 _ _ (fall e (List.mem_of_getElem? he)) h6.1
       have hl2:L2 (oI h.nx ρ) (es.set j {e with key:=k',val:=x0}) (es'.modify j fun e=>{e with key:=k',val:=x'}).toList:=by
        rw [Array.toList_modify]
        refine hl.modify fun y hy=>?_
        rw [h5] at hy;cases hy
        exact ⟨vk,vx,h6.2.2⟩
       obtain ⟨p1,p2,p3⟩:=oW (P:=P) hr h1 hG hl2 clock
       refine ⟨.skip,undef,ρ,_,?_,.inr ⟨rfl,rfl⟩,VR.undef,p2,p3⟩
       have h5':es'[j]? =some e':=by simpa using h5
       simp only [Instr.mapUpdate,Sem.run_bind,run_underlying hu,Result.andThen,hgo,f1,f2,h5',Option.map_some,Option.getD_some,hkey,rM hb,p1,Sem.run_pure]
   |none=>
    simp only at hv;cases hv
    cases r' with
    |some jv=>cases f3
    |none=>
     have hl2:L2 (oI h.nx ρ) (es++[{key:=k',val:=x0,born:=clock}]) (es'.push {key:=k',val:=x',born:=clock}).toList:=by
      rw [Array.toList_push]
      exact hl.append (L2.cons ⟨vk,vx,rfl⟩ L2.nil)
     obtain ⟨p1,p2,p3⟩:=oW (P:=P) hr h1 hG hl2 (clock+1)
     refine ⟨.skip,undef,ρ,_,?_,.inr ⟨rfl,rfl⟩,VR.undef,p2,p3⟩
     simp only [Instr.mapUpdate,Sem.run_bind,run_underlying hu,Result.andThen,hgo,f1,f2,p1,Sem.run_pure]
 ·cases hv
theorem IP {t:TypeId} {m k:Operand} {r:LR} (hv:nu P G tm h t m k=some r):
 mU P G h ρ w (do pure (.value (←Instr.mapEntry t (ak tmps m) (ak tmps k)))) r:=by
 unfold nu at hv
 split at hv
 ·rename_i kt et r0 es clock k0 hu hm hk
  obtain ⟨e1,h1,hG⟩:=wZ hr ht hm
  have vk:=av hr ht hk
  rw [e1]
  generalize ak tmps k=k' at vk
  obtain ⟨es',ji,hl,hlt⟩:=nY hr h1 rfl
  have hgo:=run_getObj_map (P:=P) ji
  cases hf:oO P false kt k0 es with
  |none=>rw [hf] at hv;simp at hv
  |some f=>
   obtain ⟨rfl,f1,fall,r',f2,f3,f4⟩:=yH hf vk hl w
   rw [hf] at hv
   cases f with
   |some i=>
    simp only at hv
    cases r' with
    |none=>cases f3
    |some jv=>
     obtain ⟨j,v0⟩:=jv
     simp only [Option.map_some,Option.some.injEq] at f3;subst f3
     obtain ⟨e2,h7,rfl⟩:=f4 j v0 rfl
     cases he:es[j]? with
     |none=>rw [he] at hv;cases hv
     |some e=>
      rw [he] at hv;simp only at hv
      cases hb:Instr.sameBits 10000 e.key k' with
      |false=>rw [hb] at hv;cases hv
      |true=>
       rw [hb,cond_true] at hv;cases hv
       obtain ⟨e',h5,h6⟩:=hl.get he
       obtain rfl:e'=e2:=by rw [h5] at h7;exact Option.some.inj h7
       have hkey:e'.key=e.key:=nW 6 _ _ (fall e (List.mem_of_getElem? he)) h6.1
       have hl2:L2 (oI h.nx ρ) (es.set j {e with key:=k'}) (es'.modify j fun e=>{e with key:=k'}).toList:=by
        rw [Array.toList_modify]
        refine hl.modify fun y hy=>?_
        rw [h5] at hy;cases hy
        exact ⟨vk,h6.2.1,h6.2.2⟩
       obtain ⟨p1,p2,p3⟩:=oW (P:=P) hr h1 hG hl2 clock
       refine ⟨.value (.tuple #[e'.val,.int .i64 e'.born]),_,ρ,_,?_,.inl rfl,?_,p2,p3⟩
       ·have h5':es'[j]? =some e':=by simpa using h5
        simp only [Instr.mapEntry,Sem.run_bind,run_underlying hu,Result.andThen,hgo,f1,f2,h5',Option.map_some,Option.getD_some,hkey,rM hb,p1,Sem.run_pure,goInt]
       ·rw [h6.2.2];exact VR.tuple' (L2.cons h6.2.1 (L2.cons (.int _ _) L2.nil))
   |none=>
    cases r' with
    |some jv=>cases f3
    |none=>
     cases hz:mI P et with
     |none=>rw [hz] at hv;cases hv
     |some z=>
      rw [hz] at hv;cases hv
      obtain ⟨hz1,hz2⟩:=j4 hz w
      have hl2:L2 (oI h.nx ρ) (es++[{key:=k',val:=z,born:=clock}]) (es'.push {key:=k',val:=z,born:=clock}).toList:=by
       rw [Array.toList_push]
       exact hl.append (L2.cons ⟨vk,eO 6 _ hz2,rfl⟩ L2.nil)
      obtain ⟨p1,p2,p3⟩:=oW (P:=P) hr h1 hG hl2 (clock+1)
      refine ⟨.value (.tuple #[z,.int .i64 clock]),_,ρ,_,?_,.inl rfl,VR.tuple' (L2.cons (eO 6 _ hz2) (L2.cons (.int _ _) L2.nil)),p2,p3⟩
      simp only [Instr.mapEntry,Sem.run_bind,run_underlying hu,Result.andThen,hgo,f1,f2,hz1,p1,Sem.run_pure,goInt]
 ·cases hv
omit hr ht in
theorem OT {n:Nat} {ρ:Ren} (born:Int):∀ (l m:List MapEntry),L2 (oI n ρ) l m→m.findIdx? (fun e=>(e.born:Int)==born)=l.findIdx? (fun e=>(e.born:Int)==born):=by
 intro l
 induction l with
 |nil=>intro m hl;rw [hl.bZ]
 |cons a l ih=>
  intro m hl
  obtain ⟨b,t,rfl,hab,ht⟩:=hl.aL
  rw [List.findIdx?_cons,List.findIdx?_cons,hab.2.2,ih t ht]
theorem Dz {t:TypeId} {m s x:Operand} {r:LR} (hv:lX G tm h m s x=some r):
 mU P G h ρ w (do Instr.entryStore t (ak tmps m) (ak tmps s) (ak tmps x);pure .skip) r:=by
 unfold lX at hv
 split at hv
 ·rename_i r0 es clock kd born x0 hm hs hx
  obtain ⟨e1,h1,hG⟩:=wZ hr ht hm
  have vs:=av hr ht hs
  have vx:=av hr ht hx
  rw [e1]
  generalize ak tmps s=s' at vs
  generalize ak tmps x=x' at vx
  cases vs
  obtain ⟨es',ji,hl,hlt⟩:=nY hr h1 rfl
  have hgo:=run_getObj_map (P:=P) ji
  cases hf:es.findIdx? (fun e=>(e.born:Int)==born) with
  |none=>rw [hf] at hv;cases hv
  |some i=>
   rw [hf] at hv;simp only at hv
   cases he:es[i]? with
   |none=>rw [he] at hv;cases hv
   |some e=>
    rw [he] at hv;cases hv
    obtain ⟨e',h5,h6⟩:=hl.get he
    have hl2:L2 (oI h.nx ρ) (es.set i {e with val:=x0}) (es'.modify i fun e=>{e with val:=x'}).toList:=by
     rw [Array.toList_modify]
     refine hl.modify fun y hy=>?_
     rw [h5] at hy;cases hy
     exact ⟨h6.1,vx,h6.2.2⟩
    obtain ⟨p1,p2,p3⟩:=oW (P:=P) hr h1 hG hl2 clock
    have hidx:es'.findIdx? (fun e=>(e.born:Int)==born)=some i:=by
     obtain ⟨l⟩:=es'
     rw [List.findIdx?_toArray,OT born es l hl,hf]
    refine ⟨.skip,undef,ρ,_,?_,.inr ⟨rfl,rfl⟩,VR.undef,p2,p3⟩
    simp only [Instr.entryStore,Sem.run_bind,Result.andThen,hgo,asInt,asIntOf,Sem.run_pure,hidx,p1]
 ·cases hv
theorem TE {t:TypeId} {x:Operand} {r:LR} (hv:zW P G tm h t x=some r):
 mU P G h ρ w (do pure (.value (←Instr.range t (ak tmps x)))) r:=by
 have hup:∀ z,upd ρ h.nx (w.heap.size,0,z) h.nx=(w.heap.size,0,z):=fun z=>upd_same _ _ _
 unfold zW at hv
 split at hv
 ·rename_i s hu hx
  have vx:=av hr ht hx
  generalize ak tmps x=x' at vx
  cases hv;cases vx
  refine OQ hr (.text s 0) (.stringIter s 0) 0 (.text s 0 (by rw [hup])) (next:= .value (.pointer (some ⟨w.heap.size,0,none⟩))) ?_ (.inl rfl) (yI (Nat.lt_succ_self _) (hup 0))
  simp only [Instr.range,Sem.run_bind,run_underlying hu,Result.andThen,Sem.run_pure,run_newObj];rfl
 ·rename_i a b hu hx
  have vx:=av hr ht hx
  generalize ak tmps x=x' at vx
  cases hv;cases vx
  refine OQ hr (.walk none 0 [] 0) (.mapIter none 0 #[] 0) 0 (.GA 0 0 [] (by rw [hup])) (next:= .value (.pointer (some ⟨w.heap.size,0,none⟩))) ?_ (.inl rfl) (yI (Nat.lt_succ_self _) (hup 0))
  simp only [Instr.range,Sem.run_bind,run_underlying hu,Result.andThen,Sem.run_pure,run_newObj];rfl
 ·rename_i a b m hu hx
  have vx:=av hr ht hx
  generalize ak tmps x=x' at vx
  split at hv
  ·rename_i es clock hm
   cases hv
   obtain ⟨es',ji,hl,hlt⟩:=nY hr hm rfl
   have hgo:=run_getObj_map (P:=P) ji
   cases vx with
   |map _ hmn=>
    have hm':(ρ m).1=(upd ρ h.nx (w.heap.size,0,0) m).1:=by rw [aS _ (by have:=hmn.1;omega)]
    refine OQ hr (.walk (some m) clock [] clock) (.mapIter (some (ρ m).1) clock #[] clock) 0 (by rw [hm'];exact .walk m clock [] clock (hmn.mono (Nat.le_succ _) (lu _ _ _)) (by rw [hup])) (next:= .value (.pointer (some ⟨w.heap.size,0,none⟩))) ?_ (.inl rfl) (yI (Nat.lt_succ_self _) (hup 0))
    simp only [Instr.range,Sem.run_bind,run_underlying hu,Result.andThen,Sem.run_pure,hgo,run_newObj];rfl
  ·cases hv
 ·cases hv
end
end Go.CE
