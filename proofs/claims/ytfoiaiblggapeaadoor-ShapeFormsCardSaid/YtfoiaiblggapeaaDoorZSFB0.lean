/-
  The texts ShU W0 P1 P2 Nm1 F1 V1 V2 V3 F0 Nm2 Nm3 V4 W1 W2 W3 of this claim, one behind the other.
-/
import Derived.Shelf.Unicode.DecodeAny
import Derived.Shelf.Small.Strs
import Derived.Shelf.SlSortCmp.WholeK
import Derived.Shelf.SlSortCmp.NoneTotal
import Derived.Shelf.SlicesQ.IndexFunc
import Derived.Shelf.SlicesE.Clone
import Derived.Test.YtfoiaiblggapeaaDoorProg
import Derived.Test.YtfoiaiblggapeaaDoorZSFA0
import Derived.WalkKit
import Derived.WalkSpells
import Derived.WalkLawsBesides
import Derived.Deep.Light
import Derived.Lib.Hide
import Derived.RangeFuncKeeps
import Derived.RangeFuncBound
import Derived.RangeFuncLeaves
import Derived.Shelf.Abstract
import Derived.OwnWalkIn
import Derived.TacticsInMore
import Derived.RangeFuncNested
import Derived.RangeFuncCalls
import Derived.LoopNIn
import Derived.LoopIn
import Derived.Laws.AppendOwn
import Derived.Laws.AppendOwnNone
import Derived.OwnWalk
import Derived.Deep.RegionHeld3
import Derived.Deep.DrawnRows
import Derived.Test.YtfoiaiblggapeaaDoorZSFA9
import Derived.Lib.Space
import Derived.KernelRfl
import Derived.MapKept
import Derived.Deep.Slices
import Derived.Deep.Fields
import Derived.ChangeSame
import Derived.SizedLaws
import Derived.ProofKit
import Derived.Deep.QuietTactic
import Derived.BigQuiet
import Derived.Laws.Concat
set_option maxHeartbeats 40000000
set_option maxRecDepth 100000
noncomputable section
namespace Go.Proofs
open Go.Shelf
def Tryd.dec197_ren:Go.Shelf.Ren:=⟨fun|197=>75|260=>86|n=>n,fun|9=>9|21=>21|3=>3|4=>4|5=>5|105=>104|119=>87|0=>0|46=>108|139=>141|138=>140|n=>n,fun|3=>2|4=>3|n=>n⟩
theorem Tryd.dec197:Go.Proofs.Lays.n197 Tryd.prog Tryd.dec197_ren:={
 mixed:=by kernel_rfl
 f197:=Tryd.func75.trans (congrArg some (by kernel_rfl))
 f260:=Tryd.func86.trans (congrArg some (by kernel_rfl))
 t0:=Tryd.underlying0
 a0:=Tryd.isAgg0
 z0:=Tryd.sizeOf0
 v0:=Tryd.zeroValue0
 t3:=Tryd.underlying3
 a3:=Tryd.isAgg3
 z3:=Tryd.sizeOf3
 v3:=Tryd.zeroValue3
 t4:=Tryd.underlying4
 a4:=Tryd.isAgg4
 z4:=Tryd.sizeOf4
 v4:=Tryd.zeroValue4
 t5:=Tryd.underlying5
 a5:=Tryd.isAgg5
 z5:=Tryd.sizeOf5
 v5:=Tryd.zeroValue5
 t9:=Tryd.underlying9
 a9:=Tryd.isAgg9
 z9:=Tryd.sizeOf9
 v9:=Tryd.zeroValue9
 t21:=Tryd.underlying21
 a21:=Tryd.isAgg21
 z21:=Tryd.sizeOf21
 v21:=Tryd.zeroValue21
 t46:=Tryd.underlying108
 a46:=Tryd.isAgg108
 z46:=Tryd.sizeOf108
 v46:=Tryd.zeroValue108
 t105:=Tryd.underlying104
 a105:=Tryd.isAgg104
 z105:=Tryd.sizeOf104
 v105:=Tryd.zeroValue104
 t119:=Tryd.underlying87
 a119:=Tryd.isAgg87
 z119:=Tryd.sizeOf87
 t138:=Tryd.underlying140
 a138:=Tryd.isAgg140
 z138:=Tryd.sizeOf140
 v138:=Tryd.zeroValue140
 t139:=Tryd.underlying141
 a139:=Tryd.isAgg141
 z139:=Tryd.sizeOf141
 v139:=Tryd.zeroValue141
 g3:=by kernel_rfl
 g4:=by kernel_rfl}
def Tryd.cmp106_ren:Go.Shelf.Ren:=⟨fun|106=>81|213=>99|265=>105|n=>n,fun|9=>9|3=>3|n=>n,fun|n=>n⟩
theorem Tryd.cmp106:Go.Proofs.Lays.n106 Tryd.prog Tryd.cmp106_ren:={
 mixed:=by kernel_rfl
 f106:=Tryd.func81.trans (congrArg some (by kernel_rfl))
 f213:=Tryd.func99.trans (congrArg some (by kernel_rfl))
 f265:=Tryd.func105.trans (congrArg some (by kernel_rfl))
 t3:=Tryd.underlying3
 a3:=Tryd.isAgg3
 z3:=Tryd.sizeOf3
 v3:=Tryd.zeroValue3
 t9:=Tryd.underlying9
 a9:=Tryd.isAgg9
 z9:=Tryd.sizeOf9
 v9:=Tryd.zeroValue9}
def Tryd.sort6_ren:Go.Shelf.Ren:=⟨fun|6=>69|15=>77|14=>76|28=>95|29=>96|20=>87|21=>88|22=>89|23=>90|24=>91|25=>92|26=>93|27=>94|46=>100|47=>101|48=>102|49=>103|50=>104|57=>106|n=>n,fun|22=>24|24=>26|25=>95|3=>3|39=>108|0=>0|53=>101|55=>23|4=>4|46=>128|45=>127|50=>28|5=>5|9=>9|66=>142|70=>146|76=>148|77=>149|n=>n,fun|n=>n⟩
theorem Tryd.sort6:Go.Proofs.SlLaysF0.n6 Tryd.prog Tryd.sort6_ren:={
 mixed:=by kernel_rfl
 f6:=⟨Tryd.f69.name,by decide,Tryd.func69.trans (congrArg some (by kernel_rfl))⟩
 f14:=⟨Tryd.f76.name,by decide,Tryd.func76.trans (congrArg some (by kernel_rfl))⟩
 f15:=Tryd.func77.trans (congrArg some (by kernel_rfl))
 f20:=⟨Tryd.f87.name,by decide,Tryd.func87.trans (congrArg some (by kernel_rfl))⟩
 f21:=⟨Tryd.f88.name,by decide,Tryd.func88.trans (congrArg some (by kernel_rfl))⟩
 f22:=⟨Tryd.f89.name,by decide,Tryd.func89.trans (congrArg some (by kernel_rfl))⟩
 f23:=⟨Tryd.f90.name,by decide,Tryd.func90.trans (congrArg some (by kernel_rfl))⟩
 f24:=⟨Tryd.f91.name,by decide,Tryd.func91.trans (congrArg some (by kernel_rfl))⟩
 f25:=⟨Tryd.f92.name,by decide,Tryd.func92.trans (congrArg some (by kernel_rfl))⟩
 f26:=⟨Tryd.f93.name,by decide,Tryd.func93.trans (congrArg some (by kernel_rfl))⟩
 f27:=⟨Tryd.f94.name,by decide,Tryd.func94.trans (congrArg some (by kernel_rfl))⟩
 f28:=Tryd.func95.trans (congrArg some (by kernel_rfl))
 f29:=Tryd.func96.trans (congrArg some (by kernel_rfl))
 f46:=⟨Tryd.f100.name,by decide,Tryd.func100.trans (congrArg some (by kernel_rfl))⟩
 f47:=Tryd.func101.trans (congrArg some (by kernel_rfl))
 f48:=Tryd.func102.trans (congrArg some (by kernel_rfl))
 f49:=⟨Tryd.f103.name,by decide,Tryd.func103.trans (congrArg some (by kernel_rfl))⟩
 f50:=⟨Tryd.f104.name,by decide,Tryd.func104.trans (congrArg some (by kernel_rfl))⟩
 f57:=⟨Tryd.f106.name,by decide,Tryd.func106.trans (congrArg some (by kernel_rfl))⟩
 t0:=Tryd.underlying0
 a0:=Tryd.isAgg0
 z0:=Tryd.sizeOf0
 v0:=Tryd.zeroValue0
 t3:=Tryd.underlying3
 a3:=Tryd.isAgg3
 z3:=Tryd.sizeOf3
 v3:=Tryd.zeroValue3
 t4:=Tryd.underlying4
 a4:=Tryd.isAgg4
 z4:=Tryd.sizeOf4
 v4:=Tryd.zeroValue4
 t5:=Tryd.underlying5
 a5:=Tryd.isAgg5
 z5:=Tryd.sizeOf5
 v5:=Tryd.zeroValue5
 t9:=Tryd.underlying9
 a9:=Tryd.isAgg9
 z9:=Tryd.sizeOf9
 v9:=Tryd.zeroValue9
 t22:=Tryd.underlying24
 a22:=Tryd.isAgg24
 z22:=Tryd.sizeOf24
 v22:=Tryd.zeroValue24
 t25:=Tryd.underlying95
 a25:=Tryd.isAgg95
 z25:=Tryd.sizeOf95
 v25:=Tryd.zeroValue95
 t39:=Tryd.underlying108
 a39:=Tryd.isAgg108
 z39:=Tryd.sizeOf108
 v39:=Tryd.zeroValue108
 t45:=Tryd.underlying127
 a45:=Tryd.isAgg127
 z45:=Tryd.sizeOf127
 v45:=Tryd.zeroValue127
 t46:=Tryd.underlying128
 a46:=Tryd.isAgg128
 z46:=Tryd.sizeOf128
 v46:=Tryd.zeroValue128
 t50:=Tryd.underlying28
 a50:=Tryd.isAgg28
 z50:=Tryd.sizeOf28
 v50:=Tryd.zeroValue28
 t53:=Tryd.underlying101
 a53:=Tryd.isAgg101
 z53:=Tryd.sizeOf101
 v53:=Tryd.zeroValue101
 t55:=Tryd.underlying23
 a55:=Tryd.isAgg23
 z55:=Tryd.sizeOf23
 v55:=Tryd.zeroValue23
 t66:=Tryd.underlying142
 a66:=Tryd.isAgg142
 z66:=Tryd.sizeOf142
 v66:=Tryd.zeroValue142
 t70:=Tryd.underlying146
 a70:=Tryd.isAgg146
 z70:=Tryd.sizeOf146
 v70:=Tryd.zeroValue146
 t76:=Tryd.underlying148
 a76:=Tryd.isAgg148
 z76:=Tryd.sizeOf148
 v76:=Tryd.zeroValue148
 t77:=Tryd.underlying149
 a77:=Tryd.isAgg149
 z77:=Tryd.sizeOf149
 v77:=Tryd.zeroValue149}
def Tryd.cont8_ren:Go.Shelf.Ren:=⟨fun|8=>71|6=>83|n=>n,fun|22=>24|23=>26|25=>27|4=>4|3=>3|0=>0|n=>n,fun|n=>n⟩
theorem Tryd.cont8:Go.Proofs.SlLaysH0.n8 Tryd.prog Tryd.cont8_ren:={
 mixed:=by kernel_rfl
 f6:=⟨Tryd.f83.name,by decide,Tryd.func83.trans (congrArg some (by kernel_rfl))⟩
 f8:=⟨Tryd.f71.name,by decide,Tryd.func71.trans (congrArg some (by kernel_rfl))⟩
 t0:=Tryd.underlying0
 a0:=Tryd.isAgg0
 z0:=Tryd.sizeOf0
 v0:=Tryd.zeroValue0
 t3:=Tryd.underlying3
 a3:=Tryd.isAgg3
 z3:=Tryd.sizeOf3
 v3:=Tryd.zeroValue3
 t4:=Tryd.underlying4
 a4:=Tryd.isAgg4
 z4:=Tryd.sizeOf4
 v4:=Tryd.zeroValue4
 t22:=Tryd.underlying24
 a22:=Tryd.isAgg24
 z22:=Tryd.sizeOf24
 v22:=Tryd.zeroValue24
 t25:=Tryd.underlying27
 a25:=Tryd.isAgg27
 z25:=Tryd.sizeOf27
 v25:=Tryd.zeroValue27}
def Tryd.clone41_ren:Go.Shelf.Ren:=⟨fun|41=>42|n=>n,fun|22=>24|23=>26|4=>4|n=>n,fun|n=>n⟩
theorem Tryd.clone41:Go.Proofs.SlLaysE0.n41 Tryd.prog Tryd.clone41_ren:={
 mixed:=by kernel_rfl
 f41:=⟨Tryd.f42.name,by decide,Tryd.func42.trans (congrArg some (by kernel_rfl))⟩
 t4:=Tryd.underlying4
 a4:=Tryd.isAgg4
 z4:=Tryd.sizeOf4
 v4:=Tryd.zeroValue4
 t22:=Tryd.underlying24
 a22:=Tryd.isAgg24
 z22:=Tryd.sizeOf24
 v22:=Tryd.zeroValue24}
end Go.Proofs
namespace Go.Proofs.YtfoiaiblggapeaaDoor.Va
open Go Go.RowKit Go.Shelf Nu
attribute [local go_sem] Oper.semAt_some
theorem room_of_none {F:Fence} (hd:F.depth=none) (k:Nat):F.room k:=fun d h=>by rw [hd] at h;cases h
theorem roundIn_any {F:Fence} (hd:F.depth=none) {m m':Nat} {P:Program} {l:Nat} {f:FuncId} {tmps:Array Value} {assign body:Code} {w:World} {R:Ending→World→Prop}
 (h:RoundIn F m P l f tmps assign body w R):RoundIn F m' P l f tmps assign body w R:=⟨h.1,fun c cs _=>h.2 c cs (room_of_none hd _)⟩
theorem yieldAt_any {F:Fence} (hd:F.depth=none) {m:Nat} (m':Nat) {P:Program} {l:Nat} {args:Array Value} {W:World} {R:Ending→World→Prop} (h:YieldAt F m P l args W R):YieldAt F m' P l args W R:=by
 obtain ⟨fn,tmps,assign,body,hy,hR⟩:=h
 exact ⟨fn,tmps,assign,body,hy,roundIn_any hd hR⟩
theorem wload_value {w:World} {b o:Nat} {t:VT} {lv:Value} (h:Cells w b o (t.cells lv)):(Instr.loadAt 26 (.pointer (some ⟨b,o,none⟩))).run Tryd.prog w= .ok (t.agg lv) w:=
 Go.run_loadAt_mid w b o 26 (t.cells lv) _ h Tryd.underlying26 rfl (by kernel_rfl)
theorem wstore_value {w:World} {b o:Nat} {t:VT} {a:Option Addr} {n c:Nat} (h:w.there b o 5):(Instr.storeAt 26 (.pointer (some ⟨b,o,none⟩)) (t.agg (.slice a n c))).run Tryd.prog w= .ok () (w.setCells b o (t.cells (.slice a n c))):=
 Go.run_storeAt_mid w b o 26 (t.cells (.slice a n c)).toArray h (by kernel_rfl) (by simp [VT.cells,Value.oneCell'])
theorem wload_slice {w:World} {a:Addr} {v:Value} (h:w.cell? a=some v):(Instr.loadAt 24 (.pointer (some a))).run Tryd.prog w= .ok v w:=by
 have:=Tryd.underlying24
 have:=Tryd.sizeOf24
 go_simp
theorem wcell_of {w:World} {b:Nat} {cs:List Value} (h:Cells w b 0 cs) (j:Nat) (u:Value) (hu:cs[j]? =some u):w.cell? ⟨b,j,none⟩=some u:=by
 have:=h j u hu
 rwa [Nat.zero_add] at this
theorem wcells_new {w:World} {cs:List Value} {T:TypeId}:Cells (w.alloc (.cells cs.toArray T)) w.heap.size 0 cs:=Cells.of_heap (heap_alloc_new _ _)
theorem wcells_has {w:World} {b:Nat} {cs:List Value} (h:Cells w b 0 cs):Has w b cs.length:=fun j hj=>⟨cs[j],by have:=h j _ (List.getElem?_eq_getElem hj);rwa [Nat.zero_add] at this⟩
theorem wbox_value (v:World) (t:VT) (a:Option Addr) (n c:Nat):∃ V1 V2,v.alloc (.cells #[.int .i64 0,.int .u64 0,.string ⟨#[]⟩,.slice none 0 0,.int .i64 0] 26)=V1∧(Instr.storeAt 26 (.pointer (some ⟨v.heap.size,0,none⟩)) (t.agg (.slice a n c))).run Tryd.prog V1= .ok () V2∧
 Cells V2 v.heap.size 0 (t.cells (.slice a n c))∧Below v.heap.size v V2∧v.grownBy V2 none:=by
 have hz:Cells (v.alloc (.cells #[.int .i64 0,.int .u64 0,.string ⟨#[]⟩,.slice none 0 0,.int .i64 0] 26)) v.heap.size 0 [.int .i64 0,.int .u64 0,.string ⟨#[]⟩,.slice none 0 0,.int .i64 0]:=wcells_new
 have hh:=wcells_has hz
 have hf:∀ j,(v.alloc (.cells #[.int .i64 0,.int .u64 0,.string ⟨#[]⟩,.slice none 0 0,.int .i64 0] 26)).frozen? ⟨v.heap.size,j,none⟩=false:=fun j=>World.frozen?_alloc_new _ _ _ _
 have hb:Below v.heap.size v ((v.alloc (.cells #[.int .i64 0,.int .u64 0,.string ⟨#[]⟩,.slice none 0 0,.int .i64 0] 26)).setCells v.heap.size 0 (t.cells (.slice a n c))):=setCells_below (Nat.le_refl _) _ _ _ ((Below.refl _ _).alloc (Nat.le_refl _) _)
 refine ⟨_,_,rfl,wstore_value (hh.there hf (o:=0) (n:=5) (Nat.le_refl _)),hh.setC (Nat.le_refl _),hb,⟨hb.os,hb.tape,hb.output,hb.size,fun k hk _=>hb.block k hk⟩⟩
theorem at5_cells {w:World} {b o:Nat} {t:VT} {lv:Value} (h:At5 w b o t lv):Cells w b o (t.cells lv):=fun j u hu=>by
 have hj:j<5:=(List.getElem?_eq_some_iff.1 hu).1
 match j,hj with
 |0,_=>cases hu;exact h.kind
 |1,_=>cases hu;exact h.num
 |2,_=>cases hu;exact h.text
 |3,_=>cases hu;exact h.list
 |4,_=>cases hu;exact h.elem
theorem kc_at5 {br:Nat} {w w':World} {b o:Nat} {t:VT} {lv:Value} (hk:Kc br w w') (h:At5 w b o t lv) (hb:b≠br):At5 w' b o t lv:=⟨hk.cell h.kind hb,hk.cell h.num hb,hk.cell h.text hb,hk.cell h.list hb,hk.cell h.elem hb⟩
attribute [-go_sem] Go.Instr.loadAt Go.Instr.storeAt
theorem walkIn (F:Fence) (hd:F.depth=none) (hfn:F.fn 53) (hro:F.round=none) (l br B N0 M:Nat) (w0:World) (hBr:B≤br) (_hBw:B≤w0.heap.size) (J Jx:List (It B w0 N0)→World→Prop) (hJa:∀ s W W',J s W→W.grownBy W' none→J s W')
 (hY:∀ m pre (x:It B w0 N0) W,J pre W→pre.length<M→YieldAt F m Tryd.prog l #[.int .i64 x.d,x.t.agg x.lv] W fun e W'=>
   (e= .returned (.bool true)∧J (pre++[x]) W'∧Kc br W W')∨(e= .returned (.bool false)∧Jx (pre++[x]) W')):
 ∀ (lev:Nat),lev≤N0→∀ (n:Nat) (t:VT) (lv:Value) (d:Nat) (pre:List (It B w0 N0)) (W:World),t.Fine→LAt B w0 lev lv t.list→Kc br w0 W→br<W.heap.size→J pre W→pre.length+nodes t≤M→d+nodes t≤1000000000→
   CallsIn F n Tryd.prog 53 #[t.agg lv,.int .i64 d,.func (.yield l) #[] #[]] W fun e W'=>
    (e= .returned (.bool true)∧Kc br W W'∧∃ ys,ys.length=nodes t∧(FullC t d ys∧FullD t d ys)∧J (pre++ys) W')∨(e= .returned (.bool false)∧∃ q,PrefC t d q∧Jx (pre++q) W'):=by
 intro lev
 have hdd:∀ k:Nat,(F.depth.isSome=true→1≤k):=fun k h=>by rw [hd] at h;cases h
 induction lev with
 |zero=>intro _ n t lv d pre W _ h;exact h.elim
 |succ lev ih=>
  intro hlev n t lv d pre W hf hl hk hbr hJ hM hd9
  have HL:=Lib.hid hl
  have HK:=Lib.hid hk
  obtain ⟨p,c,rfl⟩:=hl.slice
  have hlen:=hl.len
  obtain ⟨x,hx⟩:∃ x:It B w0 N0,x.d=d∧x.t=t∧x.lv= .slice p t.list.length c:=⟨⟨d,t,_,hf,hl.mono hlev⟩,rfl,rfl,rfl⟩
  have hnd:=nodes_eq t
  obtain ⟨W1,hW1⟩:∃ W1,W.alloc (.cells #[.int .i64 t.kind,.int .u64 t.num,.string t.text,.slice p t.list.length c,.int .i64 t.elem] 26)=W1:=⟨_,rfl⟩
  have hJ1:J pre W1:=by rw [←hW1];exact hJa pre W _ hJ (World.grownBy_alloc W _ none)
  have hb1:Below W.heap.size W W1:=by rw [←hW1];exact (Below.refl _ _).alloc (Nat.le_refl _) _
  obtain ⟨fn,tmps,assign,body,hy,hR⟩:=hY (n-1) pre x W1 hJ1 (by omega)
  rw [hx.1,hx.2.1,hx.2.2] at hy
  refine callsIn_of_wp Tryd.func53 rfl hfn ?_ hro
  simp only [Tryd.ntmps53,List.size_toArray,List.length_cons,List.length_nil,Nat.reduceAdd,Nat.reduceSub,Array.replicate_succ,Array.replicate_zero,List.push_toArray,List.append_toArray,List.nil_append,List.cons_append]
  have k1:Cells W1 W.heap.size 0 (t.cells (.slice p t.list.length c)):=by rw [←hW1];exact wcells_new (cs:=t.cells (.slice p t.list.length c))
  have l1:=wload_value k1
  gi_wp2
  refine hR.mono ?_
  rintro e W2 (⟨rfl,hJ2,hk2⟩|⟨rfl,hx2⟩)
  ·have hne:W.heap.size≠br:=by omega
   have l2:=wload_slice (hk2.cell (wcell_of k1 3 _ rfl) hne)
   have HK2:=Lib.hid (((HK.out.trans (Kc.of_below hb1)).trans hk2))
   have HK2W:=Lib.hid ((Kc.of_below (br:=br) hb1).trans hk2)
   have hz2:W.heap.size<W2.heap.size:=by have:=hk2.size;have h3:W1.heap.size=W.heap.size+1:=by {rw [←hW1];exact heap_alloc_size _ _};omega
   have HA0:Hid (AccC t d 0 [x]∧AccD t d 0 [x]):=⟨accC_start (B:=B) (w0:=w0) (N:=N0) hx.2.1 hx.1,accD_start hx.1⟩
   have hlen':t.list.length≤9223372036854775807:=hlen
   obtain ⟨m,hm⟩:∃ m,t.list.length=m:=⟨_,rfl⟩
   have Hm:=Lib.hid hm
   rw [hm] at hlen' l2 HL
   have hJ2':=Lib.hid hJ2
   clear l1 hy hR hk2 hb1 hJ1 hJ2 hW1 k1 hlen hm
   gi_wp2
   gi_loopw [17] (fun i wr=>∃ (j:Nat) (ys:List (It B w0 N0)),i= .int .i64 j∧j≤m∧Hid (AccC t d j ys∧AccD t d j ys)∧Hid (1≤ys.length∧ys.length+nodesL (t.list.drop j)=nodes t)∧Hid (J (pre++ys) wr)∧Hid (Kc br W2 wr)) (fun i _=>m-(intOf i).toNat)
   case atStart=>exact ⟨0,[x],rfl,Nat.zero_le _,HA0,⟨Nat.le_refl 1,by show 1+nodesL (t.list.drop 0)=_;rw [List.drop_zero,hnd];omega⟩,hJ2',Kc.refl _ _⟩
   case round=>
    obtain ⟨j,ys,rfl,hj,hA,hN,hJr,hkr⟩:=hrel
    by_cases hlt:j<m
    ·rcases HL.out with ⟨h0,_⟩|⟨b,off,c',hp,hbB,_,hel⟩
     ·exfalso;have:=Hm.out;rw [h0] at this;simp at this;omega
     rw [Hm.out] at hp
     cases hp
     obtain ⟨u,hu⟩:∃ u,t.list[j]? =some u:=⟨_,List.getElem?_eq_getElem (by rw [Hm.out];exact hlt)⟩
     obtain ⟨uf,ulv,hat,hul⟩:=hel j u hu
     obtain ⟨pu,cu,rfl⟩:=hul.slice
     have hkw:=HK2.out.trans hkr.out
     have l3:=wload_value (at5_cells (kc_at5 hkw hat (by omega)))
     obtain ⟨V1,V2,hV1,st1,kv,kb,kg⟩:=wbox_value wr u pu u.list.length cu
     have l4:=wload_value kv
     have hJ4:J (pre++ys) V2:=hJa _ wr V2 hJr.out kg
     have hns:=nodesL_step hu
     have hN':=hN.out
     have hi:=ih (by omega) (n-1) u (.slice pu u.list.length cu) (d+1) (pre++ys) V2 uf hul (hkw.trans (Kc.of_below kb)) (by have:=hkr.out.size;have:=kb.size;omega) hJ4 (by rw [List.length_append];omega) (by omega)
     have hwd:IntKind.i64.wrap ((d:Int)+1)=d+1:=by rw [IntKind.wrap_i64];omega
     have hi0:(0:Int)≤(j:Int):=by omega
     have hi1:(j:Int)<(m:Int):=by omega
     have HI:=Lib.hid hi
     have HS:=Lib.hid hu
     have HB4:=Lib.hid (hkr.out.trans (Kc.of_below (br:=br) kb))
     have HNs:=Lib.hid hns
     clear hel hat hul uf hu hkw kv kb kg hJ4 hns hN' hi
     gi_wp2_with ((try refine ⟨hdd _,?_⟩);gi_at_call 53;refine HI.out.mono ?_;rintro e W3 (⟨rfl,hk3,ys',hl',hf',hJ3⟩|⟨rfl,q,hq,hx3⟩))
     ·go_roundw
      case rel=>exact ⟨j+1,ys++ys',by go_num,by omega,⟨accC_step hA.out.1 HS.out (by simpa using hf'.1),accD_step hA.out.2 HS.out (by simpa using hf'.2)⟩,by have:=HNs.out;have:=hN.out;refine ⟨?_,?_⟩<;>(rw [List.length_append];omega),by show J _ _;rw [←List.append_assoc];exact hJ3,HB4.out.trans hk3⟩
      case measure=>simp [intOf];omega
     ·go_ret
      exact .inr ⟨rfl,ys++q,prefC_part hA.out.1 HS.out (by simpa using hq),by rw [←List.append_assoc];exact hx3⟩
    ·obtain rfl:j=m:=by omega
     gi_wp2
     go_ret
     have hA':=hA.out
     have hN':=hN.out.2
     rw [←Hm.out] at hA' hN'
     rw [List.drop_length] at hN'
     exact .inl ⟨rfl,HK2W.out.trans hkr.out,ys,by simpa [nodesL] using hN',⟨fullC_end hA'.1,fullD_end hA'.2⟩,hJr.out⟩
  ·gi_wp2
   go_ret
   exact .inr ⟨rfl,[x],prefC_self hx.2.1 hx.1,hx2⟩
end Go.Proofs.YtfoiaiblggapeaaDoor.Va
namespace Go.Proofs.YtfoiaiblggapeaaDoor.Va
open Go Go.RowKit Nu
theorem infoVV:(Tryd.prog.info? 26).map (fun i=>(i.zero,i.size,i.bytes))=some (some (.agg #[.int .i64 0,.int .u64 0,.string ⟨#[]⟩,.slice none 0 0,.int .i64 0]),5,64):=by kernel_rfl
theorem cloneX_any {xs:List (VT×Value)} {p:Option Addr} {c:Nat} (w:World) (hel:∀ (i:Nat) (x:VT×Value),xs[i]? =some x→(∃ q n d,x.2= .slice q n d)∧∃ b off,p=some ⟨b,off,none⟩∧At5 w b (off+i*5) x.1 x.2) (hn:xs.length≤900000000):
 Calls Tryd.prog 42 #[.slice p xs.length c] w fun e w'=>∃ v',e= .returned v'∧w'.ownsRow w.heap.size 26 5 v' xs.length (cellsL xs)∧Below w.heap.size w w':=by
 have q22:∀ (w:World) (a:Option Addr) (n c n' c':Nat),(binOp .eql 24 (.slice a n c) (.slice none n' c')).run Tryd.prog w= .ok (.bool a.isNone) w:=fun w a n c n' c'=>Lib.run_eql_slice_nil w _ _ a n c n' c' Tryd.underlying24
 cases p with
 |none=>
  have hx:xs=[]:=by
   cases xs with
   |nil=>rfl
   |cons x r=>obtain ⟨_,b,off,e,_⟩:=hel 0 x rfl;cases e
  subst hx
  clear hel
  go_enter Tryd.func42,Tryd.ntmps42
  go_wp2
  go_ret
  exact ⟨_,rfl,World.ownsRow_nil _ _ _ _,Below.refl _ _⟩
 |some a=>
  have hc:∀ j u,(cellsL xs)[j]? =some u→w.cell? (a.add j)=some u:=fun j u hu=>by
   obtain ⟨i,k,x,rfl,hk,hx,hcc⟩:=cellsL_out hu
   obtain ⟨_,b,off,e,ha⟩:=hel i x hx
   cases e
   rw [Addr.add_lit,←Nat.add_assoc]
   exact at5_cells ha k u hcc
  have hone:∀ u∈cellsL xs,u.oneCell'=true:=cellsL_one fun x hx=>by
   obtain ⟨i,hi⟩:=List.getElem?_of_mem hx
   exact (hel i x hi).1
  obtain ⟨i0,hi,hz0,hz1,hz2⟩:=info_parts infoVV
  obtain ⟨n,hn'⟩:∃ n,xs.length=n:=⟨_,rfl⟩
  have HC:=Lib.hid hc
  have HO:=Lib.hid hone
  have HL:=Lib.hid ((cellsL_length xs).trans (by rw [hn']))
  rw [hn'] at hn ⊢
  have hn1:0+n≤maxLen:=by unfold maxLen;omega
  have hn2:(0+n)*64≤140737488355328:=by omega
  clear hel hc hone hn'
  go_enter Tryd.func42,Tryd.ntmps42
  go_wp2_with (at_builtin;refine wpList_append_own _ rfl _ _ 24 rfl w.heap.size 26 i0 _ 5 64 Tryd.underlying24 hi hz0 hz1 hz2 rfl (by omega) _ _ _ rfl (World.ownsRow_made w #[] 0 (Nat.le_refl _) (Nat.zero_le _) (by simp)) a n c (cellsL xs) rfl HL.out ?qc2 HO.out hn1 hn2 ?qc6 ?_)
  case qc2=>
   intro j u hj
   exact Lib.cell?_alloc_some _ (HC.out j u hj)
  case qc6=>simp
  intro v' w1 hown hgrow _
  have HOW:=Lib.hid hown
  have HB':Hid (Below w.heap.size w w1):=((Below.refl _ _).alloc (Nat.le_refl _) _).grown hgrow (by simp) (by intro k hk;simp [Value.ownBlock] at hk;omega)
  obtain ⟨p',n',c',rfl⟩:∃ p' n' c',v'= .slice p' n' c':=by
   rcases hown.2 with ⟨rfl,_⟩|⟨g,cap,cur,rfl,_⟩
   ·exact ⟨_,_,_,rfl⟩
   ·exact ⟨_,_,_,rfl⟩
  clear hown hgrow
  go_wp2
  go_ret
  exact ⟨_,rfl,by have:=HOW.out;simpa using this,HB'.out⟩
theorem cloneV_any {B N:Nat} {v:Value} {ts:List VT} (w:World) (h:LAt B w (N+1) v ts) (hn:ts.length≤900000000):
 Calls Tryd.prog 42 #[v] w fun e w'=>∃ v' xs,e= .returned v'∧xs.map (·.1)=ts∧(∀ (i:Nat) (x:VT×Value),xs[i]? =some x→x.1.Fine∧LAt B w N x.2 x.1.list)∧w'.ownsRow w.heap.size 26 5 v' ts.length (cellsL xs)∧Below w.heap.size w w':=by
 obtain ⟨xs,p,c,hm,rfl,hel⟩:=h.open
 have hlen:ts.length=xs.length:=by rw [←hm,List.length_map]
 rw [hlen] at hn ⊢
 refine (cloneX_any (xs:=xs) (p:=p) (c:=c) w (fun i x hx=>?_) hn).mono ?_
 ·obtain ⟨_,h2,b,off,e,_,ha⟩:=hel i x hx
  obtain ⟨q,d,e2⟩:=h2.slice
  exact ⟨⟨q,_,d,e2⟩,b,off,e,ha⟩
 ·rintro e w' ⟨v',rfl,h1,h2⟩
  exact ⟨v',xs,rfl,hm,fun i x hx=>⟨(hel i x hx).1,(hel i x hx).2.1⟩,h1,h2⟩
theorem pstore_slice' {w:World} {b o:Nat} {a:Option Addr} {n c:Nat} {u:Value} (hc:w.cell? ⟨b,o,none⟩=some u) (hf:w.frozen? ⟨b,o,none⟩=false):(Instr.storeAt 24 (.pointer (some ⟨b,o,none⟩)) (.slice a n c)).run Tryd.prog w= .ok () (w.setCell ⟨b,o,none⟩ (.slice a n c)):=by
 have:=Tryd.underlying24
 have:=Tryd.sizeOf24
 go_simp
theorem pstore_slice {w:World} {b o:Nat} {a:Option Addr} {n c:Nat} (h:w.there b o 1):(Instr.storeAt 24 (.pointer (some ⟨b,o,none⟩)) (.slice a n c)).run Tryd.prog w= .ok () (w.setCells b o [.slice a n c]):=by
 have h0:=h 0 (by omega)
 obtain ⟨u,hu⟩:=Option.isSome_iff_exists.1 h0.1
 exact pstore_slice' hu h0.2
attribute [-go_sem] Go.Instr.loadAt Go.Instr.storeAt
theorem ploadVar_value {w:World} {b:Nat} {t:VT} {lv:Value} (h:Cells w b 0 (t.cells lv)):(loadVar 26 ⟨b,0,none⟩).run Tryd.prog w= .ok (t.agg lv) w:=
 Go.run_loadVar_mid w b 0 26 (t.cells lv) _ h Tryd.underlying26 rfl (by kernel_rfl)
def CopS (N:Nat):Prop:=∀ (B:Nat) (t:VT) (lv:Value) (w:World),t.Fine→LAt B w N lv t.list→B≤w.heap.size→nodes t≤900000000→
    Calls Tryd.prog 38 #[t.agg lv] w fun r w'=>∃ lv' us,r= .returned (t.agg lv')∧OL w' N lv' t.list us∧Blk w.heap.size w'.heap.size us∧ApartV us∧Below w.heap.size w w'
theorem nodesL_len:∀ l:List VT,l.length≤nodesL l
 |[]=>Nat.zero_le _
 |t::r=>by have:=nodesL_len r;have:=nodes_eq t;rw [nodesL,List.length_cons];omega
theorem copies:∀ N,CopS N:=by
 intro N
 induction N with
 |zero=>intro B t lv w _ h;exact h.elim
 |succ N ih=>
  intro B t lv w hf hl hB hn
  have HS:=Lib.hid ih
  have HND:=Lib.hid hn
  obtain ⟨p,c,rfl⟩:=hl.slice
  have hlen:t.list.length≤900000000:=by have:=nodesL_len t.list;have:=nodes_eq t;omega
  obtain ⟨W1,hW1⟩:∃ W1,(w.alloc (.cells #[.int .i64 t.kind,.int .u64 t.num,.string t.text,.slice p t.list.length c,.int .i64 t.elem] 26)).alloc (.cells #[.int .i64 0,.int .u64 0,.string ⟨#[]⟩,.slice none 0 0,.int .i64 0] 26)=W1:=⟨_,rfl⟩
  obtain ⟨x1,x2,hz1,hb1⟩:=two_boxes (cs:=t.cells (.slice p t.list.length c)) (ds:=zeroT.cells (.slice none 0 0)) hW1
  have l0:=wload_slice (x1.cell (j:=3) rfl)
  have HL1:=Lib.hid (hl.below (hb1.mono hB))
  have X1:=Lib.hid x1
  have X2:=Lib.hid x2
  have HB1:=Lib.hid hb1
  clear hl ih x1 x2 hb1 hn
  go_enter Tryd.func38,Tryd.ntmps38
  go_wp2_with (fail)
  clear hW1 l0
  refine (cloneV_any (B:=B) (N:=N) W1 HL1.out (by omega)).mono ?_
  rintro r w2 ⟨v',xs,rfl,hmap,hel,hown,hb2⟩
  have hxl:xs.length=t.list.length:=by rw [←hmap,List.length_map]
  have HM:=Lib.hid hmap
  have HEL:=Lib.hid hel
  have HX:=Lib.hid hxl
  have z2:=hb2.size
  have X1b:=Lib.hid (X1.out.below hb2 (by omega))
  have X2b:=Lib.hid (X2.out.below hb2 (by omega))
  have HB2:=Lib.hid (HB1.out.trans (hb2.mono (by omega)))
  have l2:=wload_slice (X1b.out.cell (j:=3) rfl)
  rcases hown.2 with ⟨rfl,hn0⟩|⟨g,cap,cur,rfl,hgl,hg,hcap,hcm,hcs,htk⟩
  ·rw [hn0] at hlen HX hxl X1b X1 ⊢
   have ht0:t.list=[]:=List.eq_nil_of_length_eq_zero hn0
   have hst:=pstore_slice (a:=none) (n:=0) (c:=0) (X1b.out.part (o:=3) (n:=1) (by show 3+1≤5;omega))
   obtain ⟨W3,hW3⟩:∃ W3,w2.setCells w.heap.size 3 [.slice none 0 0]=W3:=⟨_,rfl⟩
   have y1:Box W3 w.heap.size (t.cells (.slice none 0 0)):=by
    rw [←hW3]
    refine X1b.out.set (o:=3) (by show 3+1≤5;omega) rfl (fun j u hu=>?_) (fun j hj=>?_)
    ·match j,hu with
     |0,hu=>exact hu
    ·match j,hj with
     |0,_=>rfl
     |1,_=>rfl
     |2,_=>rfl
     |3,h=>simp at h
     |4,_=>rfl
     |j+5,_=>rfl
   have y2:Box W3 (w.heap.size+1) (zeroT.cells (.slice none 0 0)):=X2b.out.heap (by rw [←hW3];exact setCells_other (by omega) _ _)
   have yb:Below w.heap.size w W3:=by rw [←hW3];exact HB2.out.trans (setCells_below' (Nat.le_refl _) _ _)
   rw [hW3] at hst
   have l3:=wload_slice (y1.cell (j:=3) rfl)
   have l5:=wload_value y1.1
   have hst6:=wstore_value (t:=t) (a:=none) (n:=0) (c:=0) (y2.part (o:=0) (n:=5) (Nat.le_refl _))
   have y3:=y2.all (vs:=t.cells (.slice none 0 0)) rfl
   have yb:Below w.heap.size w (W3.setCells (w.heap.size+1) 0 (t.cells (.slice none 0 0))):=yb.trans (setCells_below' (by omega) _ _)
   obtain ⟨X,hX⟩:∃ X,W3.setCells (w.heap.size+1) 0 (t.cells (.slice none 0 0))=X:=⟨_,rfl⟩
   rw [hX] at hst6 y3 yb
   have HF:Hid (OL X (N+1) (.slice none 0 0) t.list [.slice none 0 0]∧Blk w.heap.size X.heap.size [.slice none 0 0]∧ApartV [.slice none 0 0]∧Below w.heap.size w X):=⟨by rw [ht0];exact OL.nil _ _,Blk.none _ _,ApartV.one _,yb⟩
   have HLV:=Lib.hid (ploadVar_value y3.1)
   clear hown hel hmap hb2 hxl y1 y2 y3 yb hX hW3 l2 ht0 hn0
   go_wp2
   clear hst
   go_loopw [11] (fun iv wr=>iv= .int .i64 0∧wr=W3) (fun _ _=>0)
   case atStart=>exact ⟨rfl,rfl⟩
   case round=>
    obtain ⟨rfl,rfl⟩:=hrel
    go_wp2
    exact bodyPost_ret_by (resultsMid rfl rfl HLV.out) rfl ⟨_,_,rfl,HF.out⟩
  ·have hst:=pstore_slice (a:=some ⟨g,0,none⟩) (n:=t.list.length) (c:=cap) (X1b.out.part (o:=3) (n:=1) (by show 3+1≤5;omega))
   obtain ⟨W3,hW3⟩:∃ W3,w2.setCells w.heap.size 3 [.slice (some ⟨g,0,none⟩) t.list.length cap]=W3:=⟨_,rfl⟩
   have y1:Box W3 w.heap.size (t.cells (.slice (some ⟨g,0,none⟩) t.list.length cap)):=by
    rw [←hW3]
    refine X1b.out.set (o:=3) (by show 3+1≤5;omega) rfl (fun j u hu=>?_) (fun j hj=>?_)
    ·match j,hu with
     |0,hu=>exact hu
    ·match j,hj with
     |0,_=>rfl
     |1,_=>rfl
     |2,_=>rfl
     |3,h=>simp at h
     |4,_=>rfl
     |j+5,_=>rfl
   have y2:Box W3 (w.heap.size+1) (zeroT.cells (.slice none 0 0)):=X2b.out.heap (by rw [←hW3];exact setCells_other (by omega) _ _)
   have yg:W3.heap[g]? =some (.cells cur 26 (0,0)):=by rw [←hW3,setCells_other (by omega)];exact hg
   have yb:Below w.heap.size w W3:=by rw [←hW3];exact HB2.out.trans (setCells_below' (Nat.le_refl _) _ _)
   have HBW3:Hid (Below w.heap.size W1 W3):=by rw [←hW3];exact (hb2.mono (by omega)).trans (setCells_below' (Nat.le_refl _) _ _)
   have hR0:CRel g cap xs N W3 0 W3:=CRel.start yg (by omega) hcs (by rw [hxl];exact htk)
   rw [hW3] at hst
   have HR0:=Lib.hid hR0
   have Y1:=Lib.hid y1
   have Y2:=Lib.hid y2
   have YB:=Lib.hid yb
   have l3:=wload_slice (y1.cell (j:=3) rfl)
   obtain ⟨n,hn'⟩:∃ n,t.list.length=n:=⟨_,rfl⟩
   have Hn:=Lib.hid hn'
   rw [hn'] at hlen HX Y1 hst l3 hcap ⊢
   clear hown hel hmap hb2 hxl hg hcs htk hR0 y1 y2 yg yb hW3 hn' l2
   go_wp2
   clear hst l3
   go_loopw [11] (fun iv wr=>∃ j:Nat,iv= .int .i64 j∧j≤n∧Hid (CRel g cap xs N W3 j wr)) (fun iv _=>n-(intOf iv).toNat)
   case atStart=>exact ⟨0,rfl,Nat.zero_le _,HR0.out⟩
   case round=>
    obtain ⟨j,rfl,hj,HR⟩:=hrel
    have hgw:=HR.out.glt
    have HK:Hid (∀ v,Below wr.heap.size wr v→(Instr.loadAt 24 (.pointer (some ⟨w.heap.size,3,none⟩))).run Tryd.prog v= .ok (.slice (some ⟨g,0,none⟩) n cap) v):=fun v h=>
     wload_slice (((Y1.out.below HR.out.below (by omega)).below h (by omega)).cell (j:=3) rfl)
    by_cases hlt:j<n
    ·obtain ⟨x,hx⟩:∃ x,xs[j]? =some x:=⟨_,List.getElem?_eq_getElem (by rw [HX.out];exact hlt)⟩
     obtain ⟨hxf,hxl⟩:=HEL.out j x hx
     have hat:=HR.out.rest j x (Nat.le_refl _) hx
     have hnx:nodes x.1≤900000000:=by
      have h1:=nodesL_at (l:=t.list) (k:=j) (t:=x.1) (by rw [←HM.out,List.getElem?_map,hx];rfl)
      have:=nodes_eq t
      have:=HND.out
      omega
     have hBw:Below B W1 wr:=(HBW3.out.mono hB).trans (HR.out.below.mono (by omega))
     have HXX:=Lib.hid hx
     have hE:∀ v,Below wr.heap.size wr v→(Instr.loadAt 26 (.pointer (some ⟨g,j*5,none⟩))).run Tryd.prog v= .ok (.agg #[.int .i64 x.1.kind,.int .u64 x.1.num,.string x.1.text,x.2,.int .i64 x.1.elem]) v:=fun v h=>wload_value (at5_cells (hat.heap (h.block g hgw)))
     have HC:Hid (∀ v,Below wr.heap.size wr v→Calls Tryd.prog 38 #[.agg #[.int .i64 x.1.kind,.int .u64 x.1.num,.string x.1.text,x.2,.int .i64 x.1.elem]] v fun r w'=>∃ lv' us,r= .returned (x.1.agg lv')∧OL w' N lv' x.1.list us∧Blk v.heap.size w'.heap.size us∧ApartV us∧Below v.heap.size v w'):=fun v h=>
      HS.out B x.1 x.2 v hxf ((hxl.below hBw).below (h.mono (by have:=hBw.size;omega))) (by have:=hBw.size;have:=h.size;omega) hnx
     have hE0:=hE wr.drew (Below.refl _ _).drew
     have hj0:(0:Int)≤(j:Int):=by omega
     have hj1:(j:Int)<(n:Int):=by omega
     clear hx hxf hxl hat hnx hBw hE
     go_wp2
     have hK0:=HK.out wr.drew (Below.refl _ _).drew
     go_region_with
      ((go_at_call 38;refine (HC.out _ (Below.refl _ _).drew).mono ?_;rintro r w5 ⟨lv2,us,rfl,ho,hbk,hap,hb5'⟩;have hb5:Below wr.heap.size wr.drew w5:=hb5';clear hb5';obtain ⟨q5,c5,rfl⟩:=ho.slice
        have hth5:=there_at (z:=5) (k:=j) (off:=0) (there_heap HR.out.there (((Below.refl _ _).drew.trans hb5).block g hgw)) (Nat.lt_of_lt_of_le hlt hcap)
        rw [Nat.zero_add] at hth5
        have hst5:=wstore_value (t:=x.1) (a:=q5) (n:=x.1.list.length) (c:=c5) hth5
        have hK5:=HK.out w5 ((Below.refl _ _).drew.trans hb5)
        obtain ⟨X5,hX5⟩:∃ X5,w5.setCells g (j*5) (x.1.cells (.slice q5 x.1.list.length c5))=X5:=⟨_,rfl⟩
        rw [hX5] at hst5
        have HN:Hid (CRel g cap xs N W3 (j+1) X5):=by rw [←hX5];exact HR.out.step HXX.out (Nat.lt_of_lt_of_le hlt hcap) ((Below.refl _ _).drew.trans hb5) ho hbk hap
        clear hth5 ho hbk hap hX5))
     all_goals
      go_wp2
      go_roundw
      case rel=>exact ⟨j+1,by go_num,by omega,HN.out⟩
      case measure=>simp [intOf];omega
    ·obtain rfl:j=n:=by omega
     have hR:=HR.out
     rw [←HX.out] at hR
     obtain ⟨us,ho,hbk,hap⟩:=hR.all (by rw [HX.out];exact hcap) (by rw [HX.out];unfold maxLen;omega) (fun i x hx=>(HEL.out i x hx).1)
     rw [HM.out,HX.out] at ho
     have y1:=Y1.out.below HR.out.below (by omega)
     have y2:=Y2.out.below HR.out.below (by omega)
     have l5:=wload_value y1.1
     have hst6:=wstore_value (t:=t) (a:=some ⟨g,0,none⟩) (n:=j) (c:=cap) (y2.part (o:=0) (n:=5) (Nat.le_refl _))
     have y3:=y2.all (vs:=t.cells (.slice (some ⟨g,0,none⟩) j cap)) rfl
     have yb:Below w.heap.size w (wr.setCells (w.heap.size+1) 0 (t.cells (.slice (some ⟨g,0,none⟩) j cap))):=(YB.out.trans (HR.out.below.mono (by omega))).trans (setCells_below' (by omega) _ _)
     have yo:OL (wr.setCells (w.heap.size+1) 0 (t.cells (.slice (some ⟨g,0,none⟩) j cap))) (N+1) (.slice (some ⟨g,0,none⟩) j cap) t.list us:=ho.heap (by rw [setCells_sz];exact Nat.le_refl _) fun u hu b hb=>setCells_other (by have:=hbk u hu b hb;omega) _ _
     have yz:Blk w.heap.size (wr.setCells (w.heap.size+1) 0 (t.cells (.slice (some ⟨g,0,none⟩) j cap))).heap.size us:=by rw [setCells_sz];exact hbk.mono (by omega) (Nat.le_refl _)
     obtain ⟨X,hX⟩:∃ X,wr.setCells (w.heap.size+1) 0 (t.cells (.slice (some ⟨g,0,none⟩) j cap))=X:=⟨_,rfl⟩
     rw [hX] at hst6 y3 yb yo yz
     have HF:Hid (OL X (N+1) (.slice (some ⟨g,0,none⟩) j cap) t.list us∧Blk w.heap.size X.heap.size us∧ApartV us∧Below w.heap.size w X):=⟨yo,yz,hap,yb⟩
     have HLV:=Lib.hid (ploadVar_value y3.1)
     clear hR ho hbk hap y1 y2 y3 yb yo yz hX
     go_wp2
     exact bodyPost_ret_by (resultsMid rfl rfl HLV.out) rfl ⟨_,us,rfl,HF.out⟩
end Go.Proofs.YtfoiaiblggapeaaDoor.Va
namespace Go.Proofs.YtfoiaiblggapeaaDoor.Nm
open Go Go.RowKit Go.CE Nu
theorem mixed:Tryd.prog.follows .mixedOrders=true:=by kernel_rfl
theorem noCount:NoCount Tryd.prog:=noCount_of (by kernel_rfl)
def space:List (Nat×List Value):=[(0,Lib.asciiSpaceTab.map fun z=>Value.int .u8 z)]
def rowOk (h:H) (e:MapEntry) (r:Int×List (List UInt8)) (b:Nat):Bool:=
 (match e.key with
   | .int .i64 k=>decide (k=r.1)
   |_=>false)&&((match rowA h 1 e.val r.2.length with
   |some cs=>veqL (veq 8) cs (r.2.map fun s=>Value.string ⟨s.toArray⟩)
   |none=>false)&&Nat.beq e.born b)
def rowsOk (h:H):List MapEntry→List (Int×List (List UInt8))→Nat→Bool
 |[],[],_=>true
 |e::es,r::rs,b=>rowOk h e r b&&rowsOk h es rs (b+1)
 |_,_,_=>false
def namesOk (v:Value) (h:H):Bool:=
 match v with
 | .map (some m)=>match h.hp.get m with
   |some (.map es clock)=>rowsOk h es rows 0&&(Nat.beq clock 6&&Nat.ble 7 m)
   |_=>false
 |_=>false
theorem evaluated:evSeen Tryd.prog 7 1000000 [] 33 [] space namesOk=true:=by kernel_rfl
def StrsAt (w:World) (v:Value) (l:List (List UInt8)):Prop:=
 ∃ b off c,v= .slice (some ⟨b,off,none⟩) l.length c∧b<w.heap.size∧∀ i s,l[i]? =some s→w.cell? ⟨b,off+i,none⟩=some (.string ⟨s.toArray⟩)
def RowsAt (w:World) (es:List MapEntry) (b:Nat):List (Int×List (List UInt8))→Prop
 |[]=>es=[]
 |r::rs=>∃ e t,es=e::t∧e.key= .int .i64 r.1∧StrsAt w e.val r.2∧e.born=b∧RowsAt w t (b+1) rs
theorem rows_at {h:H} {ρ:CE.Ren} {w:World} (hr:HR 7 h ρ w):∀ (rs:List (Int×List (List UInt8))) (es:List MapEntry) (es':List MapEntry) (b:Nat),rowsOk h es rs b=true→L2 (EntR h.nx ρ) es es'→RowsAt w es' b rs
 |[],[],es',b,_,hl=>hl.nil_left
 |[],_::_,_,_,h,_=>by cases h
 |_::_,[],_,_,h,_=>by cases h
 |r::rs,e::es,es',b,hk,hl=>by
  obtain ⟨e',t',rfl,he,ht⟩:=hl.cons_left
  have hk':(rowOk h e r b&&rowsOk h es rs (b+1))=true:=hk
  simp only [Bool.and_eq_true] at hk'
  obtain ⟨h1,h2⟩:=hk'
  unfold rowOk at h1
  simp only [Bool.and_eq_true] at h1
  obtain ⟨k1,k2,k3⟩:=h1
  refine ⟨e',t',rfl,?_,?_,by rw [he.2.2];exact Nat.eq_of_beq_eq_true k3,rows_at hr rs es t' (b+1) h2 ht⟩
  ·have hkey:=he.1
   split at k1
   ·rename_i k hek
    rw [hek] at hkey
    have:k=r.1:=of_decide_eq_true k1
    subst this
    generalize e'.key=y at hkey
    cases hkey
    rfl
   ·cases k1
  ·split at k2
   ·rename_i cs hcs
    have hcs':=veqL8 _ _ k2
    obtain ⟨i,k,c,b',off,c',e1,e2,e3,e4,e5,e6,e7,e8,e9⟩:=rowA_at hr he.2.1 hcs
    refine ⟨b',off,c',e5,e7,fun j s hs=>?_⟩
    obtain ⟨y,hy,hv⟩:=e9 j (.string ⟨s.toArray⟩) (by rw [hcs',List.getElem?_map,hs];rfl)
    rw [hy]
    cases hv
    rfl
   ·cases k2
theorem names_any {w:World} {t:TypeId} (hsp:w.heap[0]? =some (.cells (Lib.asciiSpaceTab.map fun z=>Value.int .u8 z).toArray t (0,0))):
 Calls Tryd.prog 33 #[] w fun e w'=>∃ bm es clock,e= .returned (.map (some bm))∧w'.heap[bm]? =some (.map es clock)∧RowsAt w' es.toList 0 rows∧clock=6∧w.heap.size≤bm∧Below w.heap.size w w':=by
 refine (calls_seen mixed noCount (memo_none _ _) evaluated (w:=w) (lies_tab (g:=0) (by decide) hsp)).mono ?_
 rintro e w' ⟨v',rfl,⟨v,h,ρ,hok,hv,hr,hnew⟩,hb⟩
 unfold namesOk at hok
 split at hok
 ·rename_i m
  split at hok
  ·rename_i es clock hm
   simp only [Bool.and_eq_true] at hok
   obtain ⟨h1,h2,h3⟩:=hok
   have hc:clock=6:=Nat.eq_of_beq_eq_true h2
   cases hv with
   |map _ hin=>
    obtain ⟨_,ob,hob,hobj⟩:=hr.obj m _ hm
    cases hobj with
    |map _ _ es' hm'=>
     exact ⟨(ρ m).1,es',clock,rfl,hob,rows_at hr rows es es'.toList 0 h1 hm',hc,hnew m (Nat.le_of_ble_eq_true h3) (by rw [hm];simp),hb⟩
  ·cases hok
 ·cases hok
end Go.Proofs.YtfoiaiblggapeaaDoor.Nm
namespace Go.Proofs.YtfoiaiblggapeaaDoor.Fd
open Go Go.RowKit Go.CE Nu Go.Proofs.YtfoiaiblggapeaaDoor.Nm
def capFit (h:H) (size:Nat) (v:Value):Bool:=
 match v with
 | .slice (some ⟨i,k,none⟩) l c=>match h.hp.get i with
   |some (.cells cs)=>Nat.ble l (capLo c)&&(Nat.ble 7 i&&bif capEx c then Nat.ble (k+capLo c*size) cs.length else Nat.beq (capSize c) size)
   |_=>false
 |_=>false
def sameId (a b:Value):Bool:=
 match a with
 | .slice (some ⟨i,_,_⟩) _ _=>(match b with
   | .slice (some ⟨j,_,_⟩) _ _=>Nat.beq i j
   |_=>false)
 |_=>false
def apartOk:List Value→Bool
 |[]=>true
 |a::r=>r.all (fun b=> !sameId a b)&&apartOk r
def kindsOk (h:H) (ks:List Int) (kv:Value):Bool:=
 match ks with
 |[]=>veqL (veq 8) [kv] [.slice none 0 0]
 |k::r=>capFit h 1 kv&&(match rowA h 1 kv (k::r).length with
  |some cs=>veqL (veq 8) cs ((k::r).map (Value.int .i64))
  |none=>false)
def rowsOkF (h:H):List FT→List Value→Bool
 |[],[]=>true
 |f::fs,n::t::kv::m::a::b::c::d::e::r=>veqL (veq 8) [n,t,m,a,b,c,d,e] [.string ⟨f.name.toArray⟩,.int .i64 f.type,.bool f.must,.int .i64 f.dk,.int .u64 f.dn,.string ⟨f.dt.toArray⟩,.slice none 0 0,.int .i64 0]&&(kindsOk h f.kinds kv&&rowsOkF h fs r)
 |_,_=>false
def kvsA:List Value→List Value
 |_::_::kv::_::_::_::_::_::_::r=>kv::kvsA r
 |_=>[]
def listOk (h:H) (x:Value) (fs:List FT):Bool:=
 capFit h 9 x&&(match rowA h 9 x fs.length with
  |some cs=>rowsOkF h fs cs&&apartOk (x::kvsA cs)
  |none=>false)
def fieldsOk (o:Option (List FT)) (v:Value) (h:H):Bool:=
 match v with
 | .tuple a=>match a.toList with
   |[x,y]=>(match o with
    |none=>veqL (veq 8) [x,y] [.slice none 0 0,.bool false]
    |some []=>veqL (veq 8) [x,y] [.slice none 0 0,.bool true]
    |some (f::fs)=>veqL (veq 8) [y] [.bool true]&&listOk h x (f::fs))
   |_=>false
 |_=>false
def RowC (lo hi:Nat) (w:World) (sz:Nat) (v:Value) (n:Nat) (cs:List Value):Prop:=
 ∃ b off c,v= .slice (some ⟨b,off,none⟩) n c∧lo≤b∧b<hi∧hi≤w.heap.size∧n≤c∧w.there b off (c*sz)∧w.rangeAt b off cs
def KsOwn (lo hi:Nat) (w:World) (kv:Value) (ks:List Int):Prop:=(ks=[]∧kv= .slice none 0 0)∨(ks≠[]∧RowC lo hi w 1 kv ks.length (ks.map (Value.int .i64)))
def fcell (f:FT) (kv:Value):List Value:=[.string ⟨f.name.toArray⟩,.int .i64 f.type,kv,.bool f.must,.int .i64 f.dk,.int .u64 f.dn,.string ⟨f.dt.toArray⟩,.slice none 0 0,.int .i64 0]
def fcells:List FT→List Value→List Value
 |f::fs,kv::kvs=>fcell f kv++fcells fs kvs
 |_,_=>[]
def ApartB (vs:List Value):Prop:=vs.Pairwise fun a b=>∀ x,a.ownBlock=some x→b.ownBlock≠some x
def FsOwn (lo hi:Nat) (w:World) (v:Value) (fs:List FT):Prop:=
 (fs=[]∧v= .slice none 0 0)∨(fs≠[]∧∃ kvs:List Value,kvs.length=fs.length∧RowC lo hi w 9 v fs.length (fcells fs kvs)∧
   (∀ (i:Nat) (f:FT) (kv:Value),fs[i]? =some f→kvs[i]? =some kv→KsOwn lo hi w kv f.kinds)∧ApartB (v::kvs))
section
variable {h:H} {ρ:CE.Ren} {w:World} {lo:Nat}
theorem row_seen (hr:HR 7 h ρ w) (hnew:∀ i,7≤i→h.hp.get i≠none→lo≤(ρ i).1) {size n:Nat} {v v':Value} {cs:List Value} (hf:capFit h size v=true) (hv:VR h.nx ρ v v') (hc:rowA h size v n=some cs):
 ∃ cs',L2 (VR h.nx ρ) cs cs'∧RowC lo w.heap.size w size v' n cs':=by
 obtain ⟨i,k,c,b,off,c',rfl,hne,rfl,rfl,rfl,hcap,hlt,hlen,hcell⟩:=rowA_at hr hv hc
 let cs':List Value:=(List.range cs.length).map fun j=>(w.cell? ⟨(ρ i).1,(ρ i).2.1+k+j,none⟩).getD .nilFunc
 have hget:∀ j x,cs[j]? =some x→∃ y,cs'[j]? =some y∧w.cell? ⟨(ρ i).1,(ρ i).2.1+k+j,none⟩=some y∧VR h.nx ρ x y:=by
  intro j x hx
  obtain ⟨y,h1,h2⟩:=hcell j x hx
  refine ⟨y,?_,h1,h2⟩
  have hj:=(List.getElem?_eq_some_iff.1 hx).1
  show ((List.range cs.length).map _)[j]? =_
  rw [List.getElem?_map,List.getElem?_range hj,Option.map_some,h1];rfl
 have hl:cs'.length=cs.length:=by simp [cs']
 unfold capFit at hf
 simp only at hf
 split at hf
 ·rename_i ds hds
  simp only [Bool.and_eq_true] at hf
  obtain ⟨f1,f2,f3⟩:=hf
  obtain ⟨_,ob,hob,hobj⟩:=hr.obj i _ hds
  cases hobj with
  |cells _ cc e fz hz hlen' hcv hfz=>
   have h1:n≤c'∧(ρ i).2.1+k+c'*size≤cc.size:=by
    have f1:=Nat.le_of_ble_eq_true f1
    unfold capOk at hcap
    by_cases he:capEx c=true
    ·rw [if_pos he] at hcap
     rw [he,cond_true] at f3
     have f3:=Nat.le_of_ble_eq_true f3
     rw [hcap]
     exact ⟨f1,by omega⟩
    ·rw [if_neg he] at hcap
     rw [Bool.not_eq_true] at he
     rw [he,cond_false] at f3
     have f3:=Nat.eq_of_beq_eq_true f3
     rw [f3] at hcap
     exact ⟨by omega,by rw [hz];exact hcap.2⟩
   refine ⟨cs',⟨hl.symm,fun j x y hx hy=>?_⟩,_,_,c',rfl,hnew i (Nat.le_of_ble_eq_true f2) hne,hlt,Nat.le_refl _,h1.1,fun j hj=>⟨?_,?_⟩,fun j y hy=>?_⟩
   ·obtain ⟨y',a,_,b⟩:=hget j x hx
    rw [a] at hy
    cases hy
    exact b
   ·unfold World.cell?
    rw [hob]
    simp
    omega
   ·unfold World.frozen?
    rw [hob]
    simp
    omega
   ·have hj:=(List.getElem?_eq_some_iff.1 hy).1
    obtain ⟨y',a,b,_⟩:=hget j _ (List.getElem?_eq_getElem (by omega:j<cs.length))
    rw [a] at hy
    cases hy
    exact b
 ·cases hf
theorem vr_str {n:Nat} {s:ByteArray} {y:Value} (h:VR n ρ (.string s) y):y= .string s:=by cases h;rfl
theorem vr_int {n:Nat} {k:IntKind} {m:Int} {y:Value} (h:VR n ρ (.int k m) y):y= .int k m:=by cases h;rfl
theorem vr_bool {n:Nat} {m:Bool} {y:Value} (h:VR n ρ (.bool m) y):y= .bool m:=by cases h;rfl
theorem vr_nil {n:Nat} {y:Value} (h:VR n ρ (.slice none 0 0) y):y= .slice none 0 0:=by cases h;rfl
theorem vr_ints {n:Nat}:∀ {ks:List Int} {cs':List Value},L2 (VR n ρ) (ks.map (Value.int .i64)) cs'→cs'=ks.map (Value.int .i64)
 |[],cs',hl=>hl.nil_left
 |k::ks,cs',hl=>by
  obtain ⟨y,t,rfl,h1,h2⟩:=L2.cons_left hl
  rw [vr_int h1,vr_ints h2];rfl
theorem kinds_seen (hr:HR 7 h ρ w) (hnew:∀ i,7≤i→h.hp.get i≠none→lo≤(ρ i).1) {ks:List Int} {v v':Value} (hk:kindsOk h ks v=true) (hv:VR h.nx ρ v v'):KsOwn lo w.heap.size w v' ks:=by
 cases ks with
 |nil=>
  have:=veqL8 _ _ hk
  cases this
  exact .inl ⟨rfl,vr_nil hv⟩
 |cons k r=>
  unfold kindsOk at hk
  simp only [Bool.and_eq_true] at hk
  obtain ⟨h1,h2⟩:=hk
  split at h2
  ·rename_i cs hcs
   obtain ⟨cs',hl,hrow⟩:=row_seen hr hnew h1 hv hcs
   rw [veqL8 _ _ h2] at hl
   rw [vr_ints hl] at hrow
   exact .inr ⟨by simp,hrow⟩
  ·cases h2
theorem rows_seen:∀ (fs:List FT) (cs cs':List Value),rowsOkF h fs cs=true→L2 (VR h.nx ρ) cs cs'→∃ kc,kc.length=fs.length∧L2 (VR h.nx ρ) (kvsA cs) kc∧cs'=fcells fs kc∧∀ (i:Nat) (f:FT) (a:Value),fs[i]? =some f→(kvsA cs)[i]? =some a→kindsOk h f.kinds a=true
 |[],[],cs',_,hl=>⟨[],rfl,⟨rfl,fun i x y hx=>by simp [kvsA] at hx⟩,hl.nil_left,fun i f a hf=>by simp at hf⟩
 |[],_::_,_,hk,_=>by simp [rowsOkF] at hk
 |f::fs,cs,cs',hk,hl=>by
  match cs,hk,hl with
  |n::t::kv::m::a::b::c::d::e::r,hk,hl=>
   simp only [rowsOkF,Bool.and_eq_true] at hk
   obtain ⟨h1,h2,h3⟩:=hk
   have e1:=veqL8 _ _ h1
   simp only [List.cons.injEq,and_true] at e1
   obtain ⟨rfl,rfl,rfl,rfl,rfl,rfl,rfl,rfl⟩:=e1
   obtain ⟨n',l1,rfl,g1,hl⟩:=L2.cons_left hl
   obtain ⟨t',l2,rfl,g2,hl⟩:=L2.cons_left hl
   obtain ⟨kv',l3,rfl,g3,hl⟩:=L2.cons_left hl
   obtain ⟨m',l4,rfl,g4,hl⟩:=L2.cons_left hl
   obtain ⟨a',l5,rfl,g5,hl⟩:=L2.cons_left hl
   obtain ⟨b',l6,rfl,g6,hl⟩:=L2.cons_left hl
   obtain ⟨c',l7,rfl,g7,hl⟩:=L2.cons_left hl
   obtain ⟨d',l8,rfl,g8,hl⟩:=L2.cons_left hl
   obtain ⟨e',l9,rfl,g9,hl⟩:=L2.cons_left hl
   obtain ⟨kc,k1,k2,k3,k4⟩:=rows_seen fs r l9 h3 hl
   refine ⟨kv'::kc,by simp [k1],⟨by simp [kvsA,k2.1],fun i x y hx hy=>?_⟩,?_,fun i f' a hf ha=>?_⟩
   ·cases i with
    |zero=>simp [kvsA] at hx hy;subst hx;subst hy;exact g3
    |succ i=>simp [kvsA] at hx hy;exact k2.2 i x y hx hy
   ·rw [vr_str g1,vr_int g2,vr_bool g4,vr_int g5,vr_int g6,vr_str g7,vr_nil g8,vr_int g9,k3];rfl
   ·cases i with
    |zero=>simp [kvsA] at hf ha;subst hf;subst ha;exact h2
    |succ i=>simp [kvsA] at hf ha;exact k4 i f' a hf ha
  |[],hk,_=>simp [rowsOkF] at hk
  |[_],hk,_=>simp [rowsOkF] at hk
  |[_,_],hk,_=>simp [rowsOkF] at hk
  |[_,_,_],hk,_=>simp [rowsOkF] at hk
  |[_,_,_,_],hk,_=>simp [rowsOkF] at hk
  |[_,_,_,_,_],hk,_=>simp [rowsOkF] at hk
  |[_,_,_,_,_,_],hk,_=>simp [rowsOkF] at hk
  |[_,_,_,_,_,_,_],hk,_=>simp [rowsOkF] at hk
  |[_,_,_,_,_,_,_,_],hk,_=>simp [rowsOkF] at hk
theorem own_id {v v':Value} {x:Nat} (hv:VR h.nx ρ v v') (hx:v'.ownBlock=some x):∃ i k l c,v= .slice (some ⟨i,k,none⟩) l c∧x=(ρ i).1:=by
 cases hv with
 |slice i k l c c' hin hcap=>exact ⟨i,k,l,c,rfl,by simpa [Value.ownBlock] using hx.symm⟩
 |_=>simp [Value.ownBlock] at hx
theorem apart_seen (hr:HR 7 h ρ w):∀ (vs vs':List Value),apartOk vs=true→L2 (VR h.nx ρ) vs vs'→(∀ v∈vs,∀ i k l c,v= .slice (some ⟨i,k,none⟩) l c→h.hp.get i≠none)→ApartB vs'
 |[],vs',_,hl,_=>by rw [hl.nil_left];exact List.Pairwise.nil
 |a::r,vs',ha,hl,hlv=>by
  obtain ⟨a',r',rfl,g1,g2⟩:=L2.cons_left hl
  simp only [apartOk,Bool.and_eq_true] at ha
  refine List.Pairwise.cons (fun b' hb' x hx hx'=>?_) (apart_seen hr r r' ha.2 g2 fun v hv=>hlv v (List.mem_cons_of_mem _ hv))
  obtain ⟨j,hj⟩:=List.getElem?_of_mem hb'
  have hjl:j<r.length:=by rw [g2.1];exact (List.getElem?_eq_some_iff.1 hj).1
  have hb:=g2.2 j _ _ (List.getElem?_eq_getElem hjl) hj
  obtain ⟨i,k,l,c,rfl,e1⟩:=own_id g1 hx
  obtain ⟨i',k',l',c',e,e2⟩:=own_id hb hx'
  have hmem:r[j]∈r:=List.getElem_mem hjl
  have h1:=hlv _ List.mem_cons_self i k l c rfl
  have h2:=hlv _ (List.mem_cons_of_mem _ hmem) i' k' l' c' e
  have e3:=hr.inj i i' h1 h2 (e1.symm.trans e2)
  have:=List.all_eq_true.1 ha.1 _ hmem
  rw [e,e3] at this
  simp [sameId] at this
theorem live_of_fit {size:Nat} {v:Value} (hf:capFit h size v=true) {i k l c:Nat} (e:v= .slice (some ⟨i,k,none⟩) l c):h.hp.get i≠none:=by
 subst e
 unfold capFit at hf
 simp only at hf
 split at hf
 ·rename_i hh;rw [hh];simp
 ·cases hf
theorem list_seen (hr:HR 7 h ρ w) (hnew:∀ i,7≤i→h.hp.get i≠none→lo≤(ρ i).1) {fs:List FT} (hne:fs≠[]) {v v':Value} (hk:listOk h v fs=true) (hv:VR h.nx ρ v v'):FsOwn lo w.heap.size w v' fs:=by
 unfold listOk at hk
 simp only [Bool.and_eq_true] at hk
 obtain ⟨h1,h2⟩:=hk
 split at h2
 ·rename_i cs hcs
  simp only [Bool.and_eq_true] at h2
  obtain ⟨h2,h3⟩:=h2
  obtain ⟨cs',hl,hrow⟩:=row_seen hr hnew h1 hv hcs
  obtain ⟨kc,k1,k2,rfl,k4⟩:=rows_seen fs cs cs' h2 hl
  refine .inr ⟨hne,kc,k1,hrow,fun i f kv hf hkv=>?_,?_⟩
  ·have hi:i<(kvsA cs).length:=by rw [k2.1];exact (List.getElem?_eq_some_iff.1 hkv).1
   exact kinds_seen hr hnew (k4 i f _ hf (List.getElem?_eq_getElem hi)) (k2.2 i _ _ (List.getElem?_eq_getElem hi) hkv)
  ·refine apart_seen hr _ _ h3 ⟨by simp [k2.1],fun i x y hx hy=>?_⟩ fun u hu i k l c e=>?_
   ·cases i with
    |zero=>simp at hx hy;subst hx;subst hy;exact hv
    |succ i=>simp at hx hy;exact k2.2 i x y hx hy
   ·rcases List.mem_cons.1 hu with rfl|hu
    ·exact live_of_fit h1 e
    ·obtain ⟨j,hj⟩:=List.getElem?_of_mem hu
     have hjl:=(List.getElem?_eq_some_iff.1 hj).1
     obtain ⟨f,hf⟩:∃ f,fs[j]? =some f:=⟨_,List.getElem?_eq_getElem (by rw [←k1,←k2.1];exact hjl)⟩
     have:=k4 j f u hf hj
     subst e
     cases hks:f.kinds with
     |nil=>rw [hks] at this;have:=veqL8 _ _ this;simp at this
     |cons q r=>
      rw [hks] at this
      unfold kindsOk at this
      simp only [Bool.and_eq_true] at this
      exact live_of_fit this.1 rfl
 ·cases h2
theorem fields_seen (hr:HR 7 h ρ w) (hnew:∀ i,7≤i→h.hp.get i≠none→lo≤(ρ i).1) {o:Option (List FT)} {v v':Value} (hk:fieldsOk o v h=true) (hv:VR h.nx ρ v v'):
 ∃ x,v'= .tuple #[x,.bool o.isSome]∧FsOwn lo w.heap.size w x (o.getD []):=by
 unfold fieldsOk at hk
 split at hk
 ·rename_i a
  split at hk
  ·rename_i x y hxy
   cases hv with
   |tuple _ a' ha hA=>
    have hl:L2 (VR h.nx ρ) [x,y] a'.toList:=by rw [←hxy];exact ⟨ha,hA⟩
    obtain ⟨x',l1,e1,g1,hl⟩:=L2.cons_left hl
    obtain ⟨y',l2,rfl,g2,hl⟩:=L2.cons_left hl
    have e2:=hl.nil_left
    subst e2
    have ea:a'= #[x',y']:=by apply Array.ext';rw [e1]
    subst ea
    match o,hk with
    |none,hk=>
     have:=veqL8 _ _ hk
     simp only [List.cons.injEq,and_true] at this
     obtain ⟨rfl,rfl⟩:=this
     exact ⟨x',by rw [vr_bool g2];rfl,.inl ⟨rfl,vr_nil g1⟩⟩
    |some [],hk=>
     have:=veqL8 _ _ hk
     simp only [List.cons.injEq,and_true] at this
     obtain ⟨rfl,rfl⟩:=this
     exact ⟨x',by rw [vr_bool g2];rfl,.inl ⟨rfl,vr_nil g1⟩⟩
    |some (f::fs),hk=>
     simp only [Bool.and_eq_true] at hk
     have:=veqL8 _ _ hk.1
     simp only [List.cons.injEq,and_true] at this
     subst this
     exact ⟨x',by rw [vr_bool g2];rfl,list_seen hr hnew (by simp) hk.2 g1⟩
  ·cases hk
 ·cases hk
end
def FieldsAns (k:Int) (w:World) (r:Ending) (w':World):Prop:=∃ x,r= .returned (.tuple #[x,.bool (fieldsT k).isSome])∧FsOwn w.heap.size w'.heap.size w' x ((fieldsT k).getD [])∧Below w.heap.size w w'
def fieldsEv (f:FuncId) (k:Int) (o:Option (List FT)):Bool:=evSeen Tryd.prog 7 1000000 [] f [.int .i64 k] [] (fieldsOk o)
theorem fields_of {f:FuncId} {k:Int} (h:fieldsEv f k (fieldsT k)=true) (w:World):Calls Tryd.prog f #[.int .i64 k] w (FieldsAns k w):=by
 refine (calls_seen mixed noCount (memo_none _ _) h (w:=w) (lies_none _ _)).mono ?_
 rintro e w' ⟨v',rfl,⟨v,h,ρ,hok,hv,hr,hnew⟩,hb⟩
 obtain ⟨x,rfl,hx⟩:=fields_seen hr hnew hok hv
 exact ⟨x,rfl,hx,hb⟩
theorem high (j:Nat):fieldsT (Int.ofNat (j+121))=none:=by
 show fieldsN (j+121)=none
 have:∀ e∈tab,Nat.beq e.1 (j+121)=false:=fun e he=>by
  have hb:∀ e∈tab,e.1<121:=by decide
  have:=hb e he
  cases hh:Nat.beq e.1 (j+121) with
  |false=>rfl
  |true=>have:=Nat.eq_of_beq_eq_true hh;omega
 unfold fieldsN
 rw [List.find?_eq_none.2 (fun e he=>by rw [this e he];simp)]
 rfl
theorem all_of {f:FuncId} (h1:∀ j,fieldsEv f (Int.negSucc j) none=true) (h2:∀ j:Nat,fieldsEv f (Int.ofNat (j+121)) none=true)
 (h3:((List.range 22).all fun k=>fieldsEv f (Int.ofNat k) (fieldsN k))=true) (h4:((List.range 30).all fun k=>fieldsEv f (Int.ofNat (k+22)) (fieldsN (k+22)))=true) (h5:((List.range 69).all fun k=>fieldsEv f (Int.ofNat (k+52)) (fieldsN (k+52)))=true):∀ k:Int,fieldsEv f k (fieldsT k)=true
 | .negSucc j=>h1 j
 | .ofNat n=>by
   by_cases a:n<22
   ·exact List.all_eq_true.1 h3 n (List.mem_range.2 a)
   ·by_cases b:n<52
    ·have:=List.all_eq_true.1 h4 (n-22) (List.mem_range.2 (by omega))
     rwa [show n-22+22=n by omega] at this
    ·by_cases c:n<121
     ·have:=List.all_eq_true.1 h5 (n-52) (List.mem_range.2 (by omega))
      rwa [show n-52+52=n by omega] at this
     ·have:=h2 (n-121)
      have hh:=high (n-121)
      rw [show n-121+121=n by omega] at this hh
      rw [hh];exact this
theorem f_below (j:Nat):fieldsEv 19 (Int.negSucc j) none=true:=by kernel_rfl
theorem f_above (j:Nat):fieldsEv 19 (Int.ofNat (j+121)) none=true:=by kernel_rfl
theorem f_a:((List.range 22).all fun k=>fieldsEv 19 (Int.ofNat k) (fieldsN k))=true:=by kernel_rfl
theorem f_b:((List.range 30).all fun k=>fieldsEv 19 (Int.ofNat (k+22)) (fieldsN (k+22)))=true:=by kernel_rfl
theorem f_c:((List.range 69).all fun k=>fieldsEv 19 (Int.ofNat (k+52)) (fieldsN (k+52)))=true:=by kernel_rfl
theorem fields_any (k:Int) (w:World):Calls Tryd.prog 19 #[.int .i64 k] w (FieldsAns k w):=fields_of (all_of f_below f_above f_a f_b f_c k) w
end Go.Proofs.YtfoiaiblggapeaaDoor.Fd
namespace Go.Proofs.YtfoiaiblggapeaaDoor.Va
open Go Go.RowKit Go.ChangeShapes Go.WideShapes Go.Deep Nu
def fieldsV:Array Field:=match Tryd.prog.underlying 26 with|some (.struct fs)=>fs|_=>#[]
theorem underV:Tryd.prog.underlying 26=some (.struct fieldsV):=by kernel_rfl
theorem sizeV:fieldsV.size=5:=by kernel_rfl
theorem cellsV:Tryd.prog.cellsOf 26=5:=by kernel_rfl
theorem bytesV:Tryd.prog.bytesOf 26=64:=by kernel_rfl
theorem oneV:oneCellFields Tryd.prog fieldsV=true:=by kernel_rfl
theorem typesV:fieldsV.toList.map (·.type)=[3,23,9,24,3]:=by kernel_rfl
theorem fieldV (j:Nat) (t:TypeId) (h:[3,23,9,24,3][j]? =some t):∃ f:Field,fieldsV[j]? =some f∧f.type=t:=by
 rw [←typesV,List.getElem?_map] at h
 rw [Array.getElem?_toList] at h
 cases hf:fieldsV[j]? with
 |none=>rw [hf] at h;cases h
 |some f=>rw [hf] at h;exact ⟨f,rfl,by simpa using h⟩
theorem list_of {α:Type} {Q:Nat→α→Prop}:∀ n:Nat,(∀ i,i<n→∃ e,Q i e)→∃ es:List α,es.length=n∧∀ i e,es[i]? =some e→Q i e
 |0,_=>⟨[],rfl,fun i e h=>by simp at h⟩
 |n+1,h=>by
  obtain ⟨es,hl,he⟩:=list_of n fun i hi=>h i (by omega)
  obtain ⟨e,hq⟩:=h n (by omega)
  refine ⟨es++[e],by simp [hl],fun i x hx=>?_⟩
  rcases Nat.lt_or_ge i es.length with hi|hi
  ·rw [List.getElem?_append_left hi] at hx
   exact he i x hx
  ·rw [List.getElem?_append_right hi] at hx
   have:i-es.length=0:=by
    have:=(List.getElem?_eq_some_iff.1 hx).1
    simp at this
    omega
   rw [this] at hx
   simp at hx
   subst hx
   obtain rfl:i=n:=by omega
   exact hq
section
variable {H:Type} {enc:TypeId×Value→H} {w:World} {base:Nat} {spare:Nat→Bool} {held:Bool}
theorem wf_i64 {k:Int} (h:(Lit.int .i64 k).wf=true): -9223372036854775808≤k∧k≤9223372036854775807:=by
 have h':(decide (IntKind.i64.min≤k)&&decide (k≤IntKind.i64.max))=true:=h
 simp only [Bool.and_eq_true,decide_eq_true_eq] at h'
 exact h'
theorem wf_u64 {k:Int} (h:(Lit.int .u64 k).wf=true):0≤k∧k≤18446744073709551615:=by
 have h':(decide (IntKind.u64.min≤k)&&decide (k≤IntKind.u64.max))=true:=h
 simp only [Bool.and_eq_true,decide_eq_true_eq] at h'
 exact h'
theorem open_value {cs:List Value} {n:Nat} {x:DataW H×List MemPlace} (h:DataW.trod enc Tryd.prog w base spare held n 26 cs=some x) (hl:cs.length=5):
 ∃ (k m:Int) (s:ByteArray) (lv:Value) (e:Int) (n':Nat) (y:DataW H×List MemPlace),n=n'+1∧cs=[.int .i64 k,.int .u64 m,.string s,lv,.int .i64 e]∧(∀ l,(VT.mk k m s e l).Fine)∧DataW.trod enc Tryd.prog w base spare held n' 24 [lv]=some y:=by
 obtain ⟨ys,n',hn',hy,hlen,hyl,hf⟩:=DataW.trod_struct underV h
 have one:∀ (j:Nat) (t:TypeId),[3,23,9,24,3][j]? =some t→∃ v y,cs[j]? =some v∧DataW.trod enc Tryd.prog w base spare held n' t [v]=some y:=by
  intro j t ht
  obtain ⟨f,hj,rfl⟩:=fieldV j t ht
  obtain ⟨ho,hk⟩:=hone_of oneV j f hj
  have hjl:j<5:=by rw [←sizeV];exact (Array.getElem?_eq_some_iff.1 hj).1
  have h1:=hf j f hj
  rw [ho,hk] at h1
  have hone':(cs.drop j).take 1=[cs[j]'(by omega)]:=by
   rw [List.drop_eq_getElem_cons (by omega)]
   rfl
  rw [hone'] at h1
  have hys:ys[j]? =some (ys[j]'(by rw [hyl,sizeV];omega)):=List.getElem?_eq_getElem _
  exact ⟨_,_,List.getElem?_eq_getElem (by omega),h1.trans hys⟩
 obtain ⟨v0,y0,e0,t0⟩:=one 0 3 rfl
 obtain ⟨v1,y1,e1,t1⟩:=one 1 23 rfl
 obtain ⟨v2,y2,e2,t2⟩:=one 2 9 rfl
 obtain ⟨v3,y3,e3,t3⟩:=one 3 24 rfl
 obtain ⟨v4,y4,e4,t4⟩:=one 4 3 rfl
 obtain ⟨k0,hk0,_,w0⟩:=DataW.trod_int Tryd.underlying3 t0
 obtain ⟨k1,hk1,_,w1⟩:=DataW.trod_int Tryd.underlying23 t1
 obtain ⟨k2,hk2,_,w2⟩:=DataW.trod_string Tryd.underlying9 t2
 obtain ⟨k4,hk4,_,w4⟩:=DataW.trod_int Tryd.underlying3 t4
 simp only [List.cons.injEq,and_true] at hk0 hk1 hk2 hk4
 subst hk0 hk1 hk2 hk4
 refine ⟨k0,k1,k2,v3,k4,n',y3,hn',?_,fun l=>⟨(wf_i64 w0).1,(wf_i64 w0).2,(wf_u64 w1).1,(wf_u64 w1).2,(wf_i64 w4).1,(wf_i64 w4).2,w2⟩,t3⟩
 match cs,hl with
 |[a0,a1,a2,a3,a4],_=>
  simp at e0 e1 e2 e3 e4
  simp [e0,e1,e2,e3,e4]
theorem add_plain (b off j:Nat):(⟨b,off,none⟩:Addr).add j=⟨b,off+j,none⟩:=by
 unfold Addr.add
 split
 ·rename_i h;subst h;rfl
 ·rfl
theorem lt_of_cell {b o:Nat} {v:Value} (h:w.cell? ⟨b,o,none⟩=some v):b<w.heap.size:=by
 rcases Nat.lt_or_ge b w.heap.size with h'|h'
 ·exact h'
 ·exfalso
  unfold World.cell? at h
  rw [show w.heap[b]? =none from Array.getElem?_eq_none h'] at h
  cases h
theorem open_list:∀ {fuel:Nat} {v:Value} {x:DataW H×List MemPlace},DataW.trod enc Tryd.prog w base spare held fuel 24 [v]=some x→∃ ts,LAt w.heap.size w (fuel+1) v ts:=by
 intro fuel
 induction fuel using Nat.strongRecOn with
 |_ fuel ih=>
  intro v x h
  rcases DataW.trod_slice Tryd.underlying24 h with ⟨he,_⟩|⟨a,len,cap,elems,rest,n,hn,he,_,_,hlc,hcm,hlen,hel,_,_⟩
  ·simp only [List.cons.injEq,and_true] at he
   exact ⟨[],.inl ⟨rfl,_,_,he⟩⟩
  ·simp only [List.cons.injEq,and_true] at he
   rcases Nat.eq_zero_or_pos len with h0|hpos
   ·subst h0;exact ⟨[],.inl ⟨rfl,_,_,he⟩⟩
   ·have key:∀ i,i<len→∃ t:VT,t.Fine∧∃ lv,(∀ j u,(t.cells lv)[j]? =some u→w.cell? (a.add (i*5+j))=some u)∧LAt w.heap.size w fuel lv t.list:=by
     intro i hi
     have h1:=hel i hi
     rw [List.getElem?_eq_getElem (by omega)] at h1
     obtain ⟨cs',hc,ht'⟩:=Option.bind_eq_some_iff.1 h1
     rw [cellsV] at hc
     obtain ⟨_,hcl,hat⟩:=World.cells?_some hc
     obtain ⟨k,m,s,lv,e,n',y,hnn,rfl,hfine,hlist⟩:=open_value ht' hcl
     obtain ⟨ts,hts⟩:=ih n' (by omega) hlist
     refine ⟨.mk k m s e ts,hfine ts,lv,fun j u hu=>?_,hts.mono (by omega)⟩
     have hj:j<5:=by
      have:=(List.getElem?_eq_some_iff.1 hu).1
      simpa [VT.cells] using this
     rw [←Go.Deep.add_add,hat j hj]
     exact hu
    obtain ⟨ts,htl,hts⟩:=list_of len key
    have hsp:a.spot=none:=by
     obtain ⟨t,ht⟩:∃ t,ts[0]? =some t:=⟨_,List.getElem?_eq_getElem (by omega)⟩
     obtain ⟨_,lv,hc,_⟩:=hts 0 t ht
     have:=hc 0 _ rfl
     simpa [Addr.add] using World.cell?_spot this
    obtain ⟨b,off,spot⟩:=a
    simp only at hsp
    subst hsp
    have hat:∀ i t,ts[i]? =some t→t.Fine∧∃ lv,At5 w b (off+i*5) t lv∧LAt w.heap.size w fuel lv t.list:=fun i t ht=>by
     obtain ⟨hf,lv,hc,hl⟩:=hts i t ht
     have k:∀ j u,(t.cells lv)[j]? =some u→w.cell? ⟨b,off+i*5+j,none⟩=some u:=fun j u hu=>by
      have:=hc j u hu
      rwa [add_plain,show off+(i*5+j)=off+i*5+j by omega] at this
     exact ⟨hf,lv,⟨k 0 _ rfl,k 1 _ rfl,k 2 _ rfl,k 3 _ rfl,k 4 _ rfl⟩,hl⟩
    refine ⟨ts,.inr ⟨b,off,cap,by rw [htl];exact he,?_,by omega,hat⟩⟩
    obtain ⟨t,ht⟩:∃ t,ts[0]? =some t:=⟨_,List.getElem?_eq_getElem (by omega)⟩
    obtain ⟨_,lv,hc,_⟩:=hat 0 t ht
    exact lt_of_cell hc.kind
end
end Go.Proofs.YtfoiaiblggapeaaDoor.Va
namespace Go.Proofs.YtfoiaiblggapeaaDoor.Va
open Go Go.RowKit Nu
theorem ret_int {k:IntKind} {a b:Int} (h:a=b):Ending.returned (.int k a)= .returned (.int k b):=by rw [h]
theorem ret_bool {a b:Bool} (h:a=b):Ending.returned (.bool a)= .returned (.bool b):=by rw [h]
theorem at5_alloc {B:Nat} {w:World} {b o:Nat} {t:VT} {lv:Value} (h:At5 w b o t lv) {w':World} (hb:Below B w w') (hlt:b<B):At5 w' b o t lv:=h.below hb hlt
theorem below_boxed {w wr:World} {o:Obj} (h:Below (w.heap.size+1) (w.alloc o) wr):Below w.heap.size w wr:=((Below.refl _ _).alloc (Nat.le_refl _) _).trans (h.mono (by omega))
theorem weigh_raw:∀ (N B:Nat) (k m:Int) (s:ByteArray) (e:Int) (l:List VT) (lv:Value) (n:Nat) (w:World),LAt B w N lv l→B≤w.heap.size→s.size≤9223372036854775807→n≤100000→
 Calls Tryd.prog 21 #[.agg #[.int .i64 k,.int .u64 m,.string s,lv,.int .i64 e],.int .i64 n] w fun r w'=>r= .returned (.int .i64 (wts l (n+1+s.size/64):Nat))∧Below w.heap.size w w':=by
 intro N
 induction N with
 |zero=>intro B k m s e l lv n w h;exact h.elim
 |succ N ih=>
  intro B k m s e l lv n w hl hB hx hn
  have HL:=Lib.hid hl
  obtain ⟨p,c,rfl⟩:=hl.slice
  have hlen:=hl.len
  clear hl
  have hlen:l.length≤9223372036854775807:=hlen
  go_enter Tryd.func21,Tryd.ntmps21
  go_wp2
  obtain ⟨W1,hW1⟩:∃ W1,w.alloc (.cells #[.int .i64 k,.int .u64 m,.string s,.slice p l.length c,.int .i64 e] 26)=W1:=⟨_,rfl⟩
  have HW1:=Lib.hid hW1
  have hz1:W1.heap.size=w.heap.size+1:=by rw [←hW1];simp
  have hc2:W1.cell? ⟨w.heap.size,2,none⟩=some (.string s):=by rw [←hW1];simp
  have hc3:W1.cell? ⟨w.heap.size,3,none⟩=some (.slice p l.length c):=by rw [←hW1];simp
  rw [hW1]
  clear hW1
  go_loopw [1,5] (fun v i wr=>∃ (j q:Nat),v= .int .i64 q∧i= .int .i64 j∧j≤l.length∧Hid (wts (l.drop j) q=wts l (n+1+s.size/64))∧Below (w.heap.size+1) W1 wr) (fun _ i _=>l.length-(intOf i).toNat)
  case atStart=>exact ⟨0,n+1+s.size/64,by go_num,rfl,Nat.zero_le _,rfl,Below.refl _ _⟩
  case round=>
   obtain ⟨j,q,rfl,rfl,hj,HQ,hb⟩:=hrel
   have d3:wr.cell? ⟨w.heap.size,3,none⟩=some (.slice p l.length c):=(hb.cell (p:=⟨w.heap.size,3,none⟩) (by simp)).trans hc3
   have hend:∀ (q':Nat),¬j<l.length∨100000<q→Hid (wts (l.drop j) q=wts l (n+1+s.size/64))→(q:Int)=(wts l (n+1+s.size/64):Nat):=fun _ h h'=>by
    have:=h'.out
    rcases h with h|h
    ·obtain rfl:j=l.length:=by omega
     rw [wts_end] at this;omega
    ·rw [wts_big _ h] at this;omega
   have hE:=Lib.hid hend;clear hend
   by_cases hlt:j<l.length
   ·by_cases hq:q≤100000
    ·rcases HL.out with ⟨h0,_⟩|⟨b,off,c',hp,hbB,_,hel⟩
     ·rw [h0] at hlt;exact absurd hlt (by simp)
     ·cases hp
      obtain ⟨t,ht⟩:∃ t,l[j]? =some t:=⟨_,List.getElem?_eq_getElem hlt⟩
      obtain ⟨hf,lv,hat,hl⟩:=hel j t ht
      have hbw:Below B w wr:=(below_boxed (o:= .cells #[.int .i64 k,.int .u64 m,.string s,.slice (some ⟨b,off,none⟩) l.length c,.int .i64 e] 26) (by rw [HW1.out];exact hb)).mono hB
      obtain ⟨e0,e1,e2,e3,e4⟩:=hat.below hbw hbB
      have hl':=Lib.hid (hl.below hbw)
      have hzw:w.heap.size+1≤wr.heap.size:=by have:=hb.size;omega
      have hst:=Lib.hid (wts_step ht hq)
      have hwt:=Lib.hid (wt_eq t q)
      clear hel hl hat
      have htx:t.text.size≤9223372036854775807:=hf.x1
      clear ht
      go_wp2_with (go_at_call 21;refine (ih B t.kind t.num t.text t.elem t.list lv q wr hl'.out (by omega) htx hq).mono ?_;rintro r w2 ⟨rfl,hb2⟩)
      go_roundw
      case rel=>exact ⟨j+1,_,rfl,by go_num,by omega,by rw [←hwt.out,←hst.out];exact HQ.out,hb.trans (hb2.mono (by omega))⟩
      case measure=>simp [intOf];omega
    ·go_wp2
     go_ret
     exact ⟨ret_int (hE.out q (.inr (by omega)) HQ),below_boxed (by rw [HW1.out];exact hb)⟩
   ·go_wp2
    all_goals
     go_ret
     exact ⟨ret_int (hE.out q (.inl hlt) HQ),below_boxed (by rw [HW1.out];exact hb)⟩
theorem weigh_any {N B:Nat} {t:VT} {v:Value} {n:Nat} {w:World} (h:VAt B w N v t) (hB:B≤w.heap.size) (hn:n≤100000):
 Calls Tryd.prog 21 #[v,.int .i64 n] w fun r w'=>r= .returned (.int .i64 (wt t n:Nat))∧Below w.heap.size w w':=by
 obtain ⟨hf,lv,rfl,hl⟩:=h
 rw [wt_eq]
 exact weigh_raw N B _ _ _ _ _ lv n w hl hB hf.x1 hn
theorem great_raw {N B:Nat} {k m:Int} {s:ByteArray} {e:Int} {l:List VT} {lv:Value} {w:World} (hl:LAt B w N lv l) (hf:(VT.mk k m s e l).Fine) (hB:B≤w.heap.size):
 Calls Tryd.prog 9 #[.agg #[.int .i64 k,.int .u64 m,.string s,lv,.int .i64 e]] w fun r w'=>r= .returned (.bool (decide (100000<wt (.mk k m s e l) 0)))∧Below w.heap.size w w':=by
 have HL:=Lib.hid hl;clear hl
 go_enter Tryd.func9,Tryd.ntmps9
 have hb0:Below w.heap.size w (w.alloc (.cells #[.int .i64 k,.int .u64 m,.string s,lv,.int .i64 e] 26)):=(Below.refl _ _).alloc (Nat.le_refl _) _
 go_wp2_with (go_at_call 21;refine (weigh_any (n:=0) (N:=N) (B:=B) (t:= .mk k m s e l) ⟨hf,lv,rfl,HL.out.below (hb0.mono hB)⟩ (by simp;omega) (by omega)).mono ?_;rintro r w2 ⟨rfl,hb2⟩)
 all_goals
  go_ret
  refine ⟨ret_bool ?_,hb0.trans (hb2.mono (by simp))⟩
  first
   |rfl
   |(rw [Bool.eq_iff_iff];simp;omega)
theorem great_any {N B:Nat} {t:VT} {v:Value} {w:World} (h:VAt B w N v t) (hB:B≤w.heap.size):
 Calls Tryd.prog 9 #[v] w fun r w'=>r= .returned (.bool (decide (100000<wt t 0)))∧Below w.heap.size w w':=by
 obtain ⟨hf,lv,rfl,hl⟩:=h
 obtain ⟨k,m,s,e,l⟩:=t
 exact great_raw hl hf hB
end Go.Proofs.YtfoiaiblggapeaaDoor.Va
namespace Go.Proofs.YtfoiaiblggapeaaDoor.Va
open Go Go.RowKit Nu
attribute [local go_sem ↓] Go.wp_at_zero Go.wp_at_succ
theorem len_of_bne {a b:Nat} (h:((a:Int)!=(b:Int))=false):a=b:=by simp at h;omega
theorem equal_raw:∀ (N B:Nat) (k m:Int) (s:ByteArray) (e:Int) (l:List VT) (lv:Value) (k' m':Int) (s':ByteArray) (e':Int) (l':List VT) (lv':Value) (w:World),LAt B w N lv l→LAt B w N lv' l'→B≤w.heap.size→
 Calls Tryd.prog 17 #[.agg #[.int .i64 k,.int .u64 m,.string s,lv,.int .i64 e],.agg #[.int .i64 k',.int .u64 m',.string s',lv',.int .i64 e']] w fun r w'=>r= .returned (.bool (eqT (.mk k m s e l) (.mk k' m' s' e' l')))∧Below w.heap.size w w':=by
 intro N
 induction N with
 |zero=>intro B k m s e l lv k' m' s' e' l' lv' w h;exact h.elim
 |succ N ih=>
  intro B k m s e l lv k' m' s' e' l' lv' w hl hl' hB
  have HL:=Lib.hid hl
  have HL':=Lib.hid hl'
  obtain ⟨p,c,rfl⟩:=hl.slice
  obtain ⟨p',c',rfl⟩:=hl'.slice
  have hlen:l.length≤9223372036854775807:=hl.len
  have hlen':l'.length≤9223372036854775807:=hl'.len
  clear hl hl'
  by_cases hhd:headT (.mk k m s e l) (.mk k' m' s' e' l')
  ·have HE:=Lib.hid (eqT_head hhd)
   obtain ⟨rfl,rfl,rfl,rfl,hll⟩:=hhd
   have hll:l.length=l'.length:=hll
   simp only [VT.kind,VT.num,VT.text,VT.elem,VT.list] at HE ⊢
   obtain ⟨R,hR⟩:∃ R,eqT (.mk k m s e l) (.mk k m s e l')=R:=⟨_,rfl⟩
   rw [hR] at HE ⊢
   clear hR
   obtain ⟨n,hn⟩:∃ n,l.length=n:=⟨_,rfl⟩
   have hn':l'.length=n:=by omega
   have Hn:=Lib.hid hn
   have Hn':=Lib.hid hn'
   rw [hn] at hlen HL ⊢
   rw [hn'] at HL' ⊢
   clear hll hlen' hn hn'
   go_enter Tryd.func17,Tryd.ntmps17
   go_wp2
   obtain ⟨W1,hW1⟩:∃ W1,(w.alloc (.cells #[.int .i64 k,.int .u64 m,.string s,.slice p n c,.int .i64 e] 26)).alloc (.cells #[.int .i64 k,.int .u64 m,.string s,.slice p' n c',.int .i64 e] 26)=W1:=⟨_,rfl⟩
   have hz1:W1.heap.size=w.heap.size+2:=by rw [←hW1];simp
   have hc1:W1.cell? ⟨w.heap.size,3,none⟩=some (.slice p n c):=by rw [←hW1];simp
   have hc2:W1.cell? ⟨w.heap.size+1,3,none⟩=some (.slice p' n c'):=by rw [←hW1];simp
   have hb1:Below w.heap.size w W1:=by rw [←hW1];exact ((Below.refl _ _).alloc (Nat.le_refl _) _).alloc (by simp) _
   rw [hW1]
   clear hW1
   go_loopw [5] (fun i wr=>∃ (j:Nat),i= .int .i64 j∧j≤n∧Hid (eqTs (l.drop j) (l'.drop j)=R)∧Below (w.heap.size+2) W1 wr) (fun i _=>n-(intOf i).toNat)
   case atStart=>exact ⟨0,rfl,Nat.zero_le _,HE.out.symm,Below.refl _ _⟩
   case round=>
    obtain ⟨j,rfl,hj,HQ,hb⟩:=hrel
    have d1:wr.cell? ⟨w.heap.size,3,none⟩=some (.slice p n c):=(hb.cell (p:=⟨w.heap.size,3,none⟩) (by simp)).trans hc1
    have d2:wr.cell? ⟨w.heap.size+1,3,none⟩=some (.slice p' n c'):=(hb.cell (p:=⟨w.heap.size+1,3,none⟩) (by simp)).trans hc2
    have hbw:Below w.heap.size w wr:=hb1.trans (hb.mono (by omega))
    by_cases hlt:j<n
    ·rcases HL.out with ⟨h0,_⟩|⟨b,off,c0,hp,hbB,_,hel⟩
     ·rw [←Hn.out,h0] at hlt;exact absurd hlt (by simp)
     rcases HL'.out with ⟨h0,_⟩|⟨b',off',c0',hp',hbB',_,hel'⟩
     ·rw [←Hn'.out,h0] at hlt;exact absurd hlt (by simp)
     rw [Hn.out] at hp
     rw [Hn'.out] at hp'
     cases hp
     cases hp'
     obtain ⟨t,ht⟩:∃ t,l[j]? =some t:=⟨_,List.getElem?_eq_getElem (by rw [Hn.out];exact hlt)⟩
     obtain ⟨t',ht'⟩:∃ t,l'[j]? =some t:=⟨_,List.getElem?_eq_getElem (by rw [Hn'.out];exact hlt)⟩
     obtain ⟨hf,lv,hat,hl⟩:=hel j t ht
     obtain ⟨hf',lv',hat',hl'⟩:=hel' j t' ht'
     obtain ⟨e0,e1,e2,e3,e4⟩:=hat.below (hbw.mono hB) hbB
     obtain ⟨f0,f1,f2,f3,f4⟩:=hat'.below (hbw.mono hB) hbB'
     have hlH:=Lib.hid (hl.below (hbw.mono hB))
     have hlH':=Lib.hid (hl'.below (hbw.mono hB))
     have hzw:w.heap.size+2≤wr.heap.size:=by have:=hb.size;omega
     have hst:=Lib.hid (eqTs_step ht ht')
     have hi0:(0:Int)≤(j:Int):=by omega
     have hi1:(j:Int)<(n:Int):=by omega
     have hb0:b<w.heap.size:=by omega
     have hb0':b'<w.heap.size:=by omega
     clear hel hl hat hel' hl' hat' ht ht'
     have HALL:Hid (∀ w',Below wr.heap.size wr w'→(Below wr.heap.size wr w'∧w'.cell? ⟨w.heap.size,3,none⟩=some (.slice (some ⟨b,off,none⟩) n c)∧w'.cell? ⟨w.heap.size+1,3,none⟩=some (.slice (some ⟨b',off',none⟩) n c')∧
      w'.cell? ⟨b,off+j*5,none⟩=some (.int .i64 t.kind)∧w'.cell? ⟨b,off+j*5+1,none⟩=some (.int .u64 t.num)∧w'.cell? ⟨b,off+j*5+2,none⟩=some (.string t.text)∧w'.cell? ⟨b,off+j*5+3,none⟩=some lv∧w'.cell? ⟨b,off+j*5+4,none⟩=some (.int .i64 t.elem)∧
      w'.cell? ⟨b',off'+j*5,none⟩=some (.int .i64 t'.kind)∧w'.cell? ⟨b',off'+j*5+1,none⟩=some (.int .u64 t'.num)∧w'.cell? ⟨b',off'+j*5+2,none⟩=some (.string t'.text)∧w'.cell? ⟨b',off'+j*5+3,none⟩=some lv'∧w'.cell? ⟨b',off'+j*5+4,none⟩=some (.int .i64 t'.elem))):=fun w' h=>
      have k:∀ b o,b<wr.heap.size→w'.cell? ⟨b,o,none⟩=wr.cell? ⟨b,o,none⟩:=fun b o hb=>h.cell (p:=⟨b,o,none⟩) hb
      ⟨h,(k _ _ (by omega)).trans d1,(k _ _ (by omega)).trans d2,(k _ _ (by omega)).trans e0,(k _ _ (by omega)).trans e1,(k _ _ (by omega)).trans e2,(k _ _ (by omega)).trans e3,(k _ _ (by omega)).trans e4,(k _ _ (by omega)).trans f0,(k _ _ (by omega)).trans f1,(k _ _ (by omega)).trans f2,(k _ _ (by omega)).trans f3,(k _ _ (by omega)).trans f4⟩
     obtain ⟨X,hX⟩:∃ X,eqT t t'=X:=⟨_,rfl⟩
     rw [hX] at hst
     have HX:=Lib.hid hX
     clear hX
     go_wp2
     go_region_held3 (fun w'=>Below wr.heap.size wr w'∧w'.cell? ⟨w.heap.size,3,none⟩=some (.slice (some ⟨b,off,none⟩) n c)∧w'.cell? ⟨w.heap.size+1,3,none⟩=some (.slice (some ⟨b',off',none⟩) n c')∧
      w'.cell? ⟨b,off+j*5,none⟩=some (.int .i64 t.kind)∧w'.cell? ⟨b,off+j*5+1,none⟩=some (.int .u64 t.num)∧w'.cell? ⟨b,off+j*5+2,none⟩=some (.string t.text)∧w'.cell? ⟨b,off+j*5+3,none⟩=some lv∧w'.cell? ⟨b,off+j*5+4,none⟩=some (.int .i64 t.elem)∧
      w'.cell? ⟨b',off'+j*5,none⟩=some (.int .i64 t'.kind)∧w'.cell? ⟨b',off'+j*5+1,none⟩=some (.int .u64 t'.num)∧w'.cell? ⟨b',off'+j*5+2,none⟩=some (.string t'.text)∧w'.cell? ⟨b',off'+j*5+3,none⟩=some lv'∧w'.cell? ⟨b',off'+j*5+4,none⟩=some (.int .i64 t'.elem))
      (first
        |exact HALL.out _ (Below.refl _ _)
        |exact HALL.out _ (Below.refl _ _).drew
        |exact HALL.out _ (((Below.refl _ _).drew).trans hb2)
        |assumption)
      ((go_at_call 17;refine (ih B t.kind t.num t.text t.elem t.list lv t'.kind t'.num t'.text t'.elem t'.list lv' wr.drew (hlH.out.below (Below.refl _ _).drew) (hlH'.out.below (Below.refl _ _).drew) (by show B≤wr.heap.size;omega)).mono ?_;rintro r w2 ⟨hr,hb2⟩;rw [VT.eta,VT.eta,HX.out] at hr;subst hr;replace hb2:Below wr.heap.size wr.drew w2:=hb2))
     have hb3:Below (w.heap.size+2) W1 w2:=hb.trans (((Below.refl _ _).drew.trans hb2).mono hzw)
     clear HALL
     cases X with
     |false=>
      go_wp2
      go_ret
      refine ⟨ret_bool ?_,hb1.trans (hb3.mono (by omega))⟩
      rw [←HQ.out,hst.out,Bool.false_and]
     |true=>
      go_wp2
      go_roundw
      case rel=>exact ⟨j+1,by go_num,by omega,by rw [←HQ.out,hst.out,Bool.true_and];exact rfl,hb3⟩
      case measure=>simp [intOf];omega
    ·obtain rfl:j=n:=by omega
     go_wp2
     go_ret
     exact ⟨ret_bool (by rw [←HQ.out,←Hn.out,eqTs_end (by rw [Hn.out,Hn'.out])]),hbw⟩
  ·have HE:=Lib.hid (eqT_not hhd)
   obtain ⟨R,hR⟩:∃ R,eqT (.mk k m s e l) (.mk k' m' s' e' l')=R:=⟨_,rfl⟩
   rw [hR] at HE ⊢
   clear hR
   have Hhd:=Lib.hid hhd
   clear hhd
   go_enter Tryd.func17,Tryd.ntmps17
   go_wp2
   all_goals first
    |(go_ret;exact ⟨ret_bool HE.out.symm,((Below.refl _ _).alloc (Nat.le_refl _) _).alloc (by simp) _⟩)
    |(exfalso;apply Hhd.out;exact ⟨by assumption,by assumption,toList_inj (by assumption),by assumption,len_of_bne (by assumption)⟩)
theorem equal_any {N B:Nat} {t t':VT} {v v':Value} {w:World} (h:VAt B w N v t) (h':VAt B w N v' t') (hB:B≤w.heap.size):
 Calls Tryd.prog 17 #[v,v'] w fun r w'=>r= .returned (.bool (eqT t t'))∧Below w.heap.size w w':=by
 obtain ⟨_,lv,rfl,hl⟩:=h
 obtain ⟨_,lv',rfl,hl'⟩:=h'
 have:=equal_raw N B t.kind t.num t.text t.elem t.list lv t'.kind t'.num t'.text t'.elem t'.list lv' w hl hl' hB
 rwa [VT.eta,VT.eta] at this
end Go.Proofs.YtfoiaiblggapeaaDoor.Va
namespace Go.Proofs.YtfoiaiblggapeaaDoor.Fd
open Go Go.RowKit Nu Va
attribute [local go_sem ↓] Go.wp_at_zero Go.wp_at_succ
theorem fbelow_drewN {n:Nat} {a b:World} (h:Below n a b) (q:Nat):Below n a (b.drewN q):=⟨h.os,h.tape,h.output,h.size,h.block⟩
theorem fcell_len (f:FT) (kv:Value):(fcell f kv).length=9:=rfl
theorem fcells_get:∀ {fs:List FT} {kvs:List Value} {i:Nat} {f:FT} {kv:Value},fs[i]? =some f→kvs[i]? =some kv→∀ j,j<9→(fcells fs kvs)[i*9+j]? =(fcell f kv)[j]?
 |[],_,i,f,kv,h,_,_,_=>by simp at h
 |_::_,[],i,f,kv,_,h,_,_=>by simp at h
 |f0::fs,k0::kvs,0,f,kv,h,h',j,hj=>by
  simp at h h'
  subst h;subst h'
  rw [fcells,Nat.zero_mul,Nat.zero_add,List.getElem?_append_left (by rw [fcell_len];exact hj)]
 |f0::fs,k0::kvs,i+1,f,kv,h,h',j,hj=>by
  rw [fcells,List.getElem?_append_right (by rw [fcell_len];omega),fcell_len,show (i+1)*9+j-9=i*9+j by omega]
  exact fcells_get (by simpa using h) (by simpa using h') j hj
structure At9 (w:World) (b o:Nat) (f:FT) (kv:Value):Prop where
 name:w.cell? ⟨b,o,none⟩=some (.string ⟨f.name.toArray⟩)
 type:w.cell? ⟨b,o+1,none⟩=some (.int .i64 f.type)
 kinds:w.cell? ⟨b,o+2,none⟩=some kv
 must:w.cell? ⟨b,o+3,none⟩=some (.bool f.must)
 dk:w.cell? ⟨b,o+4,none⟩=some (.int .i64 f.dk)
 dn:w.cell? ⟨b,o+5,none⟩=some (.int .u64 f.dn)
 dt:w.cell? ⟨b,o+6,none⟩=some (.string ⟨f.dt.toArray⟩)
 dl:w.cell? ⟨b,o+7,none⟩=some (.slice none 0 0)
 de:w.cell? ⟨b,o+8,none⟩=some (.int .i64 0)
theorem RowC.heap {lo hi:Nat} {w w':World} {sz n:Nat} {v:Value} {cs:List Value} (h:RowC lo hi w sz v n cs) (hz:w.heap.size≤w'.heap.size) (he:∀ b,lo≤b→b<hi→w'.heap[b]? =w.heap[b]?):RowC lo hi w' sz v n cs:=by
 obtain ⟨b,off,c,h1,h2,h3,h3',h4,h5,h6⟩:=h
 exact ⟨b,off,c,h1,h2,h3,Nat.le_trans h3' hz,h4,there_heap h5 (he b h2 h3),fun j x hx=>(World.cell?_of_block (a:=⟨b,_,none⟩) (he b h2 h3)).trans (h6 j x hx)⟩
theorem KsOwn.heap {lo hi:Nat} {w w':World} {v:Value} {ks:List Int} (h:KsOwn lo hi w v ks) (hz:w.heap.size≤w'.heap.size) (he:∀ b,lo≤b→b<hi→w'.heap[b]? =w.heap[b]?):KsOwn lo hi w' v ks:=by
 rcases h with h|⟨h1,h2⟩
 ·exact .inl h
 ·exact .inr ⟨h1,h2.heap hz he⟩
theorem FsOwn.heap {lo hi:Nat} {w w':World} {v:Value} {fs:List FT} (h:FsOwn lo hi w v fs) (hz:w.heap.size≤w'.heap.size) (he:∀ b,lo≤b→b<hi→w'.heap[b]? =w.heap[b]?):FsOwn lo hi w' v fs:=by
 rcases h with h|⟨h1,kvs,h2,h3,h4,h5⟩
 ·exact .inl h
 ·exact .inr ⟨h1,kvs,h2,h3.heap hz he,fun i f kv hf hk=>(h4 i f kv hf hk).heap hz he,h5⟩
theorem RowC.hi_le {lo hi:Nat} {w:World} {sz n:Nat} {v:Value} {cs:List Value} (h:RowC lo hi w sz v n cs):hi≤w.heap.size:=by
 obtain ⟨b,off,c,h1,h2,h3,h3',_⟩:=h
 exact h3'
theorem KsOwn.below {lo hi:Nat} {w w':World} {v:Value} {ks:List Int} (h:KsOwn lo hi w v ks) (hb:Below w.heap.size w w'):KsOwn lo hi w' v ks:=by
 rcases h with h|⟨h1,h2⟩
 ·exact .inl h
 ·exact .inr ⟨h1,h2.heap hb.size fun b _ hlt=>hb.block b (Nat.lt_of_lt_of_le hlt h2.hi_le)⟩
theorem FsOwn.below {lo hi:Nat} {w w':World} {v:Value} {fs:List FT} (h:FsOwn lo hi w v fs) (hb:Below w.heap.size w w'):FsOwn lo hi w' v fs:=by
 rcases h with h|⟨h1,kvs,h2,h3,h4⟩
 ·exact .inl h
 ·exact FsOwn.heap (.inr ⟨h1,kvs,h2,h3,h4⟩) hb.size fun b _ hlt=>hb.block b (Nat.lt_of_lt_of_le hlt h3.hi_le)
theorem FsOwn.view {lo hi:Nat} {w:World} {v:Value} {fs:List FT} (h:FsOwn lo hi w v fs):∃ p c,v= .slice p fs.length c∧∀ i f,fs[i]? =some f→∃ b off kv,p=some ⟨b,off,none⟩∧b<w.heap.size∧At9 w b (off+i*9) f kv∧KsOwn lo hi w kv f.kinds:=by
 rcases h with ⟨rfl,rfl⟩|⟨_,kvs,h2,⟨b,off,c,rfl,_,hlt,hhi,_,_,hr⟩,h4,_⟩
 ·exact ⟨none,0,rfl,fun i f hf=>by simp at hf⟩
 ·refine ⟨_,c,rfl,fun i f hf=>?_⟩
  have hi:=(List.getElem?_eq_some_iff.1 hf).1
  obtain ⟨kv,hkv⟩:∃ kv,kvs[i]? =some kv:=⟨_,List.getElem?_eq_getElem (by omega)⟩
  have hg:∀ j x,j<9→(fcell f kv)[j]? =some x→w.cell? ⟨b,off+i*9+j,none⟩=some x:=fun j x hj hx=>by
   rw [Nat.add_assoc]
   exact hr _ x ((fcells_get hf hkv j hj).trans hx)
  exact ⟨b,off,kv,rfl,Nat.lt_of_lt_of_le hlt hhi,⟨hg 0 _ (by omega) rfl,hg 1 _ (by omega) rfl,hg 2 _ (by omega) rfl,hg 3 _ (by omega) rfl,hg 4 _ (by omega) rfl,hg 5 _ (by omega) rfl,hg 6 _ (by omega) rfl,hg 7 _ (by omega) rfl,hg 8 _ (by omega) rfl⟩,h4 i f kv hf hkv⟩
theorem KsOwn.view {lo hi:Nat} {w:World} {v:Value} {ks:List Int} (h:KsOwn lo hi w v ks):∃ p c,v= .slice p ks.length c∧∀ j k,ks[j]? =some k→∃ b off,p=some ⟨b,off,none⟩∧b<w.heap.size∧w.cell? ⟨b,off+j,none⟩=some (.int .i64 k):=by
 rcases h with ⟨rfl,rfl⟩|⟨_,b,off,c,rfl,_,hlt,hhi,_,_,hr⟩
 ·exact ⟨none,0,rfl,fun j k hk=>by simp at hk⟩
 ·exact ⟨_,c,rfl,fun j k hk=>⟨b,off,rfl,Nat.lt_of_lt_of_le hlt hhi,hr j _ (by rw [List.getElem?_map,hk];rfl)⟩⟩
theorem eqT_refl_dflt (f:FT):eqT f.dflt f.dflt=true:=by
 unfold FT.dflt
 rw [eqT_mk]
 simp [VT.kind,VT.num,VT.text,VT.elem,VT.list,eqTs]
theorem dflt_equal (f:FT) (w:World):Calls Tryd.prog 17 #[.agg #[.int .i64 f.dk,.int .u64 f.dn,.string ⟨f.dt.toArray⟩,.slice none 0 0,.int .i64 0],.agg #[.int .i64 f.dk,.int .u64 f.dn,.string ⟨f.dt.toArray⟩,.slice none 0 0,.int .i64 0]] w fun r w'=>r= .returned (.bool true)∧Below w.heap.size w w':=by
 have:=equal_raw 1 0 f.dk f.dn ⟨f.dt.toArray⟩ 0 [] (.slice none 0 0) f.dk f.dn ⟨f.dt.toArray⟩ 0 [] (.slice none 0 0) w (.inl ⟨rfl,_,_,rfl⟩) (.inl ⟨rfl,_,_,rfl⟩) (Nat.zero_le _)
 have e:eqT (.mk f.dk f.dn ⟨f.dt.toArray⟩ 0 []) (.mk f.dk f.dn ⟨f.dt.toArray⟩ 0 [])=true:=eqT_refl_dflt f
 rwa [e] at this
end Go.Proofs.YtfoiaiblggapeaaDoor.Fd
namespace Go.Proofs.YtfoiaiblggapeaaDoor.Nm
open Go Go.RowKit Nu
theorem rows_mem {w:World}:∀ {rs:List (Int×List (List UInt8))} {es:List MapEntry} {b:Nat},RowsAt w es b rs→∀ e∈es,b≤e.born∧e.born<b+rs.length∧∃ r∈rs,e.key= .int .i64 r.1∧StrsAt w e.val r.2
 |[],es,b,h,e,he=>by rw [show es=[] from h] at he;cases he
 |r::rs,es,b,h,e,he=>by
  obtain ⟨e0,t,rfl,h1,h2,h3,h4⟩:=h
  rcases List.mem_cons.1 he with rfl|he
  ·exact ⟨by omega,by simp;omega,r,List.mem_cons_self,h1,h2⟩
  ·obtain ⟨a,b',q,hq,c⟩:=rows_mem h4 e he
   exact ⟨by omega,by simp at b' ⊢;omega,q,List.mem_cons_of_mem _ hq,c⟩
theorem rows_all {w:World}:∀ {rs:List (Int×List (List UInt8))} {es:List MapEntry} {b:Nat},RowsAt w es b rs→∀ r∈rs,∃ e∈es,e.key= .int .i64 r.1∧StrsAt w e.val r.2
 |[],_,_,_,r,hr=>by cases hr
 |r0::rs,es,b,h,r,hr=>by
  obtain ⟨e0,t,rfl,h1,h2,h3,h4⟩:=h
  rcases List.mem_cons.1 hr with rfl|hr
  ·exact ⟨e0,List.mem_cons_self,h1,h2⟩
  ·obtain ⟨e,he,c⟩:=rows_all h4 r hr
   exact ⟨e,List.mem_cons_of_mem _ he,c⟩
theorem rows_nodup {w:World}:∀ {rs:List (Int×List (List UInt8))} {es:List MapEntry} {b:Nat},RowsAt w es b rs→(es.map (·.born)).Nodup
 |[],es,b,h=>by rw [show es=[] from h];exact List.nodup_nil
 |r0::rs,es,b,h=>by
  obtain ⟨e0,t,rfl,h1,h2,h3,h4⟩:=h
  rw [List.map_cons,List.nodup_cons]
  refine ⟨fun hm=>?_,rows_nodup h4⟩
  obtain ⟨e,he,heq⟩:=List.mem_map.1 hm
  have:=(rows_mem h4 e he).1
  omega
theorem StrsAt.alike {w w1:World} (ha:w1.heap=w.heap) {v:Value} {l:List (List UInt8)} (h:StrsAt w v l):StrsAt w1 v l:=by
 obtain ⟨b,off,c,h1,h2,h3⟩:=h
 refine ⟨b,off,c,h1,by rw [ha];exact h2,fun i s hs=>?_⟩
 rw [←h3 i s hs]
 unfold World.cell?
 rw [ha]
def hits (k:Int) (e:MapEntry):Prop:=∃ r∈rows,e.key= .int .i64 r.1∧r.1≤k∧k-r.1<(r.2.length:Int)
theorem rows_bd:∀ r∈rows,16≤r.1∧r.1≤112∧r.2.length≤9∧1≤r.2.length:=by decide
set_option maxRecDepth 1000000 in
theorem name_any (k:Int) {w:World} {t:TypeId} (hsp:w.heap[0]? =some (.cells (Lib.asciiSpaceTab.map fun z=>Value.int .u8 z).toArray t (0,0))) (hk0: -9223372036854775808≤k) (hk1:k≤9223372036854775807):
 Calls Tryd.prog 20 #[.int .i64 k] w fun e w'=>e= .returned (.string (nameB k))∧Below w.heap.size w w':=by
 go_enter Tryd.func20,Tryd.ntmps20
 go_wp2_with (refine (names_any hsp).mono ?_;rintro e wn ⟨bm,es,clock,rfl,hbm,hrows,rfl,hnew,hbel⟩;have hrg:=run_range_map (P:=Tryd.prog) wn 61 3 63 bm es 6 Tryd.underlying61 hbm)
 all_goals
  have hst1:∀ x∈es.toList,x.born<6:=fun x hx=>by have:=(rows_mem hrows x hx).2.1;rw [show rows.length=6 from rfl] at this;omega
  have hnd:=rows_nodup hrows
  have hrowsH:=Lib.hid hrows;clear hrows
  go_loopw [] (fun w'=>∃ (w1:World) (seen:Array Nat),(w1.Alike wn∧w1.tape=wn.tape)∧w'=w1.alloc (.mapIter (some bm) 6 seen 6)∧∀ x∈es.toList,seen.contains x.born=true→¬hits k x) (fun w'=>(leftOf es (w'.iterSeen wn.heap.size)).size)
  case atStart=>exact ⟨wn,#[],⟨⟨rfl,rfl,rfl⟩,rfl⟩,rfl,fun x _ h=>by simp at h⟩
  case round=>
   obtain ⟨w1,seen,hal,rfl,hno⟩:=hrel
   have hsz:w1.heap.size=wn.heap.size:=by rw [hal.1.1]
   have hb1:w1.heap[bm]? =some (.map es 6):=by rw [hal.1.1];exact hbm
   have law:=run_next_tape (P:=Tryd.prog) w1 0 bm 6 6 seen es 6 hb1 hst1 (Nat.le_refl _)
   rw [hsz] at law
   rcases law with ⟨h0,hrun⟩|⟨e,he,w2,hal2,hrun⟩
   ·have hnx:∀ ty,(Instr.next (.pointer (some ⟨wn.heap.size,0,none⟩)) false ty).run Tryd.prog (w1.alloc (.mapIter (some bm) 6 seen 6))=_:=fun _=>hrun
    go_wp2
    go_ret
    refine ⟨?_,?_⟩
    ·have hn:nameL k=[]:=name_none fun r hr hc=>by
      obtain ⟨e,he,hke,_⟩:=rows_all hrowsH.out r hr
      exact hno e he (all_seen es seen h0 e he) ⟨r,hr,hke,hc.1,hc.2⟩
     unfold nameB
     rw [hn];rfl
    ·exact below_iter hbel hal hbel.size _
   ·obtain ⟨r,hr,hkey,hstrs⟩:=(rows_mem hrowsH.out e (mem_left he).1).2.2
    obtain ⟨b,off,c,hval,hbl,hcell⟩:=hstrs
    rw [hkey,hval] at hrun
    have hnx:∀ ty,(Instr.next (.pointer (some ⟨wn.heap.size,0,none⟩)) false ty).run Tryd.prog (w1.alloc (.mapIter (some bm) 6 seen 6))=_:=fun _=>hrun
    have hsz2:w2.heap.size=wn.heap.size:=by rw [hal2.1.1,hal.1.1]
    have hb2:w2.heap[bm]? =some (.map es 6):=by rw [hal2.1.1];exact hb1
    have hen:=run_entry_map (P:=Tryd.prog) w2 bm 6 seen es 6 e hb2 (mem_left he).1 hnd
    rw [hsz2,hkey,hval] at hen
    have hal3:w2.Alike wn∧w2.tape=wn.tape:=⟨⟨hal2.1.1.trans hal.1.1,hal2.1.2.1.trans hal.1.2.1,hal2.1.2.2.trans hal.1.2.2⟩,hal2.2.trans hal.2⟩
    have hcell2:∀ i s,r.2[i]? =some s→w2.cell? ⟨b,off+i,none⟩=some (.string ⟨s.toArray⟩):=fun i s hs=>by
     rw [←hcell i s hs];unfold World.cell?;rw [hal3.1.1]
    obtain ⟨f,l⟩:=r
    have hbd:=rows_bd _ hr
    simp only at hkey hval hcell2 hbd hrun hen hnx
    obtain ⟨hf0,hf1,hl1,hl0⟩:=hbd
    have hnotyet:∀ (_:¬(f≤k∧k-f<(l.length:Int))) (x:MapEntry),x∈es.toList→(seen.push e.born).contains x.born=true→¬hits k x:=by
     intro hh x hx hc
     rw [contains_push] at hc
     rcases Bool.or_eq_true _ _▸hc with h1|h1
     ·exact hno x hx h1
     ·have:x=e:=born_inj hnd hx (mem_left he).1 (beq_iff_eq.1 h1)
      subst this
      rintro ⟨q,hq,hqk,hq1,hq2⟩
      rw [hkey] at hqk
      have hfe:f=q.1:=by injection hqk
      rcases rows_apart _ hr q hq with e1|e1|e1
      ·subst e1;exact hh ⟨hq1,hq2⟩
      ·simp only at e1;omega
      ·simp only at e1;omega
    have hms:(leftOf es ((w2.alloc (.mapIter (some bm) 6 (seen.push e.born) 6)).iterSeen wn.heap.size)).size<(leftOf es ((w1.alloc (.mapIter (some bm) 6 seen 6)).iterSeen wn.heap.size)).size:=by
     rw [←hsz2,World.iterSeen_alloc,hsz2,←hsz,World.iterSeen_alloc]
     exact left_shrinks es seen e he
    have hny:=Lib.hid hnotyet;clear hnotyet
    have hm:=Lib.hid hms;clear hms
    by_cases h1:f≤k
    ·by_cases h2:k-f<(l.length:Int)
     ·obtain ⟨s,hs,hname⟩:=name_hit hr h1 h2
      simp only at hs hname
      have hc1:=hcell2 _ s hs
      have hnm:=Lib.hid hname;clear hname
      have hsl:=rows_len _ hr s (List.mem_of_getElem? hs)
      have hk2:0≤k-f:=by omega
      go_wp2
      go_ret
      refine ⟨?_,below_iter hbel hal3 hbel.size _⟩
      first
       |exact congrArg (fun x=>Ending.returned (.string x)) (name_bytes hnm.out (form_map k (.inl (by assumption))))
       |exact congrArg (fun x=>Ending.returned (.string x)) (name_bytes hnm.out (form_map k (.inr (.inl (by assumption)))))
       |exact congrArg (fun x=>Ending.returned (.string x)) (name_bytes hnm.out (form_map k (.inr (.inr (.inl (by assumption))))))
       |exact congrArg (fun x=>Ending.returned (.string x)) (name_bytes hnm.out (form_map k (.inr (.inr (.inr (by assumption))))))
       |exact congrArg (fun x=>Ending.returned (.string x)) (name_bytes hnm.out (form_bin k (by assumption)))
       |exact congrArg (fun x=>Ending.returned (.string x)) (name_bytes hnm.out (form_any k (by assumption)))
       |exact congrArg (fun x=>Ending.returned (.string x)) (name_bytes hnm.out (form_list k (by assumption) (by assumption) (by assumption) (by assumption) (by assumption) (by assumption)))
     ·go_wp2
      go_roundw
      case rel=>exact ⟨w2,seen.push e.born,hal3,rfl,hny.out (fun h=>h2 h.2)⟩
      case measure=>exact hm.out
    ·go_wp2
     go_roundw
     case rel=>exact ⟨w2,seen.push e.born,hal3,rfl,hny.out (fun h=>h1 h.1)⟩
     case measure=>exact hm.out
end Go.Proofs.YtfoiaiblggapeaaDoor.Nm
namespace Go.Proofs.YtfoiaiblggapeaaDoor.Nm
open Go Go.RowKit Go.CE Nu
def refE (k:Int):MemoE:={f:=23,args:=[.int .i64 k],glob:=[],val:= .string (nameB k)}
def refN (k:Int):MemoE:={f:=23,args:=[.int .i64 k],glob:=[],val:= .string ⟨#[]⟩}
theorem ref_below (j:Nat):(refN (Int.negSucc j)).says Tryd.prog 7 1000000 []=true:=by kernel_rfl
theorem ref_above (j:Nat):(refN (Int.ofNat (j+121))).says Tryd.prog 7 1000000 []=true:=by kernel_rfl
theorem ref_a:((List.range 40).all fun k=>(refE (Int.ofNat k)).says Tryd.prog 7 1000000 [])=true:=by kernel_rfl
theorem ref_b:((List.range 40).all fun k=>(refE (Int.ofNat (k+40))).says Tryd.prog 7 1000000 [])=true:=by kernel_rfl
theorem ref_c:((List.range 41).all fun k=>(refE (Int.ofNat (k+80))).says Tryd.prog 7 1000000 [])=true:=by kernel_rfl
theorem name_low (k:Int) (h:k<16∨120<k):nameB k=⟨#[]⟩:=by
 have:nameL k=[]:=name_none fun r hr hc=>by
  have hb:∀ r∈rows,16≤r.1∧r.1+r.2.length≤121:=by decide
  have:=hb r hr
  omega
 unfold nameB
 rw [this]
theorem ref_says:∀ k:Int,(refE k).says Tryd.prog 7 1000000 []=true
 | .negSucc j=>by
   have:=ref_below j
   unfold refN at this;unfold refE
   rw [name_low (Int.negSucc j) (.inl (by omega))];exact this
 | .ofNat n=>by
   by_cases h1:n<40
   ·exact List.all_eq_true.1 ref_a n (List.mem_range.2 h1)
   ·by_cases h2:n<80
    ·have:=List.all_eq_true.1 ref_b (n-40) (List.mem_range.2 (by omega))
     rwa [show n-40+40=n by omega] at this
    ·by_cases h3:n<121
     ·have:=List.all_eq_true.1 ref_c (n-80) (List.mem_range.2 (by omega))
      rwa [show n-80+80=n by omega] at this
     ·have:=ref_above (n-121)
      rw [show n-121+121=n by omega] at this
      unfold refN at this;unfold refE
      rw [name_low (Int.ofNat n) (.inr (by rw [Int.ofNat_eq_natCast];omega))];exact this
theorem refName_any (k:Int) (w:World):Calls Tryd.prog 23 #[.int .i64 k] w fun e w'=>e= .returned (.string (nameB k))∧Below w.heap.size w w':=
 calls_entry (memo_ok mixed noCount (memo_none _ _) (ref_says k)) (lies_none _ _)
end Go.Proofs.YtfoiaiblggapeaaDoor.Nm
namespace Go.Proofs.YtfoiaiblggapeaaDoor.Va
open Go Go.RowKit Nu Go.Proofs.YtfoiaiblggapeaaDoor.Nm
attribute [local go_sem ↓] Go.wp_at_zero Go.wp_at_succ
def PreAns (s:ByteArray) (w:World) (r:Ending) (w':World):Prop:=∃ b,r= .returned (.bool b)∧(b=true↔lng<+:s.data.toList)∧w'=w
theorem prefix_in (s:ByteArray) (w:World) (hs:s.size≤9223372036854775807):
 Calls Tryd.prog 34 #[.string s,.string ⟨#[108,111,110,103,115,104,111,114,101,58]⟩] w (PreAns s w):=by
 go_enter Tryd.func34,Tryd.ntmps34
 by_cases h:10≤s.size
 ·go_wp2
  go_ret
  refine ⟨_,rfl,?_,rfl⟩
  rw [Lib.toList_data,Lib.extract_data,List.prefix_iff_eq_take,beq_iff_eq]
  exact ⟨fun h=>Eq.symm h,fun h=>Eq.symm h⟩
 ·go_wp2
  go_ret
  refine ⟨false,rfl,⟨fun hp=>(by cases hp),fun hp=>absurd hp.length_le ?_⟩,rfl⟩
  rw [←Lib.size_eq]
  simp [lng];omega
theorem prefix_any (s:ByteArray) (w:World) (hs:s.size≤9223372036854775807):
 Calls Tryd.prog 22 #[.string s,.string ⟨#[108,111,110,103,115,104,111,114,101,58]⟩] w (PreAns s w):=by
 go_enter Tryd.func22,Tryd.ntmps22
 go_wp2_with (go_at_call 34;refine (prefix_in s _ hs).mono ?_;rintro r w2 ⟨b,rfl,hb,rfl⟩;have HB:=Lib.hid hb;clear hb)
 go_ret
 exact ⟨_,rfl,HB.out,rfl⟩
theorem toEmpt {s:ByteArray} (h:s.toList=[]):s=empt:=toList_inj (by rw [h,Lib.toList_data];rfl)
theorem len_of_bne2 {a:Nat} (h:((a:Int)!=2)=false):a=2:=by simp at h;omega
theorem not_yet {ds:ByteArray} {q:Int} (h:∀ i,16≤i→i<q→nameL i≠[]→ds≠nameB i) (hq:¬ds=nameB q):∀ i,16≤i→i<q+1→nameL i≠[]→ds≠nameB i:=fun i h1 h2 h3=>by
 by_cases hi:i=q
 ·rw [hi];exact hq
 ·exact h i h1 (by omega) h3
def kindAns (o:Option Int):Value:= .tuple #[.int .i64 (kNum o),.bool o.isSome]
theorem kind_raw {N B:Nat} {k m:Int} {s:ByteArray} {e:Int} {l:List VT} {lv:Value} {w:World} {t:TypeId} (hl:LAt B w N lv l) (hf:(VT.mk k m s e l).Fine) (hB:B≤w.heap.size)
 (hsp:w.heap[0]? =some (.cells (Lib.asciiSpaceTab.map fun z=>Value.int .u8 z).toArray t (0,0))):
 Calls Tryd.prog 10 #[.agg #[.int .i64 k,.int .u64 m,.string s,lv,.int .i64 e]] w fun r w'=>r= .returned (kindAns (kindOf (.mk k m s e l)))∧Below w.heap.size w w':=by
 have HSP:Hid (∀ W',Below w.heap.size w W'→W'.heap[0]? =some (.cells (Lib.asciiSpaceTab.map fun z=>Value.int .u8 z).toArray t (0,0))):=fun W' h=>(h.block _ (Array.getElem?_eq_some_iff.1 hsp).1).trans hsp
 clear hsp
 obtain ⟨p,c,rfl⟩:=hl.slice
 have hlen:l.length≤9223372036854775807:=hl.len
 by_cases hd:k=24∧l.length=2
 ·obtain ⟨rfl,hl2⟩:=hd
  obtain ⟨d,x,rfl⟩:∃ d x,l=[d,x]:=by
   match l,hl2 with
   |[d,x],_=>exact ⟨d,x,rfl⟩
  cases N with
  |zero=>exact hl.elim
  |succ N=>
   rcases hl with ⟨h0,_⟩|⟨b,off,c',hp,hbB,_,hel⟩
   ·cases h0
   cases hp
   obtain ⟨hfd,lv,hat,hld⟩:=hel 0 d rfl
   obtain ⟨p,c1,rfl⟩:=hld.slice
   simp only [Nat.zero_mul,Nat.add_zero] at hat
   obtain ⟨e0,e1,e2,e3,e4⟩:=hat
   have hdl:d.list.length≤9223372036854775807:=hld.len
   obtain ⟨n0,n1,hx⟩:0≤d.num∧d.num≤18446744073709551615∧d.text.size≤9223372036854775807:=⟨hfd.n0,hfd.n1,hfd.x1⟩
   have hb0:b<w.heap.size:=by omega
   have hans:kindOf (.mk 24 m s e [d,x])=kindD d:=by simp [kindOf,VT.kind,VT.list]
   rw [hans]
   clear hel hld hans hf hlen hl2
   rw [show ([d,x]:List VT).length=2 from rfl]
   obtain ⟨K,hK⟩:∃ K,kindD d=K:=⟨_,rfl⟩
   rw [hK]
   have HK:=Lib.hid hK
   clear hK
   obtain ⟨dk,dm,ds,de,dl⟩:=d
   simp only [VT.kind,VT.num,VT.text,VT.elem,VT.list] at*
   by_cases hn:NumD (.mk dk dm ds de dl)
   ·have h1:=hn.kind
    have h2:=hn.text
    have h3:=hn.elem
    have h4:=hn.list
    simp only [VT.kind,VT.text,VT.elem,VT.list] at h1 h2 h3 h4
    subst h1 h2 h3 h4
    have hemp:empt.toList=[]:=by rw [Lib.toList_data];rfl
    by_cases hle:dm≤120
    ·by_cases hne:nameL dm=[]
     ·have HN:=Lib.hid (kindD_num_none hn hne)
      have hnb:(nameB dm).toList=[]:=by rw [nameB_toList,hne]
      clear hn hne
      go_enter Tryd.func10,Tryd.ntmps10
      go_wp2_with (go_at_call 20;refine Calls.mono (name_any dm (HSP.out _ ?_) (by omega) (by omega)) ?_;(repeat (first|exact Below.refl _ _|refine Below.alloc ?_ (by simp) _|refine Below.setCell ?_ (by simp) _));rintro r w2 ⟨rfl,hb2⟩)
      go_ret2
      refine ⟨by rw [←HK.out,HN.out];rfl,Below.trans ?_ (hb2.mono (by simp;omega))⟩
      (repeat (first|exact Below.refl _ _|refine Below.alloc ?_ (by simp) _|refine Below.setCell ?_ (by simp) _))
     ·have HN:=Lib.hid (kindD_num hn hne)
      have hnb:(!(nameB dm).toList.isEmpty)=true:=by rw [nameB_toList];simpa using hne
      clear hn hne
      go_enter Tryd.func10,Tryd.ntmps10
      go_wp2_with (go_at_call 20;refine Calls.mono (name_any dm (HSP.out _ ?_) (by omega) (by omega)) ?_;(repeat (first|exact Below.refl _ _|refine Below.alloc ?_ (by simp) _|refine Below.setCell ?_ (by simp) _));rintro r w2 ⟨rfl,hb2⟩)
      go_ret2
      refine ⟨by rw [←HK.out,HN.out];rfl,Below.trans ?_ (hb2.mono (by simp;omega))⟩
      (repeat (first|exact Below.refl _ _|refine Below.alloc ?_ (by simp) _|refine Below.setCell ?_ (by simp) _))
    ·have HN:=Lib.hid (kindD_num_none hn (name_out (.inr (by show 120<dm;omega))))
     clear hn
     go_enter Tryd.func10,Tryd.ntmps10
     go_wp2
     go_ret2
     refine ⟨by rw [←HK.out,HN.out];rfl,?_⟩
     (repeat (first|exact Below.refl _ _|refine Below.alloc ?_ (by simp) _|refine Below.setCell ?_ (by simp) _))
   ·by_cases hs:SymD (.mk dk dm ds de dl)
    ·have HS:=Lib.hid hs
     have h1:=hs.kind
     have h2:=hs.num
     have h3:=hs.elem
     have h4:=hs.list
     simp only [VT.kind,VT.num,VT.elem,VT.list] at h1 h2 h3 h4
     subst h1 h2 h3 h4
     clear hs hn
     go_enter Tryd.func10,Tryd.ntmps10
     go_wp2_with (go_at_call 22;refine (prefix_any ds _ hx).mono ?_;rintro r w2 ⟨bb,rfl,hbb,rfl⟩;have HBB:=Lib.hid hbb;clear hbb)
     ·obtain ⟨W1,hW1⟩:∃ W1,(w.alloc (.cells #[.int .i64 24,.int .u64 m,.string s,.slice (some ⟨b,off,none⟩) 2 c,.int .i64 e] 26)).alloc (.cells #[.int .i64 20,.int .u64 0,.string ds,.slice p 0 c1,.int .i64 0] 26)=W1:=⟨_,rfl⟩
      have hz1:W1.heap.size=w.heap.size+2:=by rw [←hW1];simp
      have hc2:W1.cell? ⟨w.heap.size+1,2,none⟩=some (.string ds):=by rw [←hW1];simp
      have hb1:Below w.heap.size w W1:=by rw [←hW1];exact ((Below.refl _ _).alloc (Nat.le_refl _) _).alloc (by simp) _
      rw [hW1]
      have hbt:bb=true:=by assumption
      have hlngH:Hid (lng<+:ds.data.toList):=HBB.out.1 hbt
      clear hW1 HBB e0 e1 e2 e3 e4
      subst hbt
      go_loopw [6] (fun i wr=>∃ (q:Int),i= .int .i64 q∧16≤q∧q≤121∧Hid (∀ i,16≤i→i<q→nameL i≠[]→ds≠nameB i)∧Below (w.heap.size+2) W1 wr) (fun i _=>(121-intOf i).toNat)
      case atStart=>exact ⟨16,rfl,by omega,by omega,fun i h1 h2=>by omega,Below.refl _ _⟩
      case round=>
       obtain ⟨q,rfl,hq0,hq1,HQ,hb⟩:=hrel
       have d2:wr.cell? ⟨w.heap.size+1,2,none⟩=some (.string ds):=(hb.cell (p:=⟨w.heap.size+1,2,none⟩) (by simp)).trans hc2
       have hbw:Below w.heap.size w wr:=hb1.trans (hb.mono (by omega))
       have HBW:=Lib.hid hbw
       have hzw:w.heap.size+2≤wr.heap.size:=by have:=hb.size;omega
       clear hbw
       by_cases hlt:q≤120
       ·have HALL:Hid (∀ w',Below wr.heap.size wr w'→(Below wr.heap.size wr w'∧w'.cell? ⟨w.heap.size+1,2,none⟩=some (.string ds))):=fun w' h=>⟨h,(h.cell (p:=⟨w.heap.size+1,2,none⟩) (by show w.heap.size+1<wr.heap.size;omega)).trans d2⟩
        go_wp2
        go_region_held3 (fun w'=>Below wr.heap.size wr w'∧w'.cell? ⟨w.heap.size+1,2,none⟩=some (.string ds))
         (first
           |exact HALL.out _ (Below.refl _ _)
           |exact HALL.out _ (Below.refl _ _).drew
           |exact HALL.out _ hb2
           |exact HALL.out _ (((Below.refl _ _).drew).trans hb2)
           |assumption)
         ((go_at_call 20;refine (name_any q (HSP.out _ (HBW.out.drew)) (by omega) (by omega)).mono ?_;rintro r w2 ⟨rfl,hb2⟩;replace hb2:Below wr.heap.size wr.drew w2:=hb2))
        have hb3:Below (w.heap.size+2) W1 w2:=hb.trans ((((Below.refl _ _).drew).trans hb2).mono hzw)
        clear HALL
        go_wp2
        ·rename_i hte
         have heq:ds=nameB q:=(toList_inj (by simpa using hte)).symm
         go_ret2
         have HN:=kindD_sym HS.out (k:=q) (fun h=>by
          have h':ds=empt:=h
          have:=hlngH.out
          rw [h'] at this
          exact absurd this.length_le (by decide)) heq HQ.out
         exact ⟨by rw [←HK.out,HN];rfl,hb1.trans (hb3.mono (by omega))⟩
        ·rename_i hte
         have hne:¬ds=nameB q:=fun h=>by rw [h] at hte;simp at hte
         go_roundw
         case rel=>exact ⟨q+1,rfl,by omega,by omega,not_yet HQ.out hne,hb3⟩
         case measure=>simp [intOf];omega
       ·obtain rfl:q=121:=by omega
        go_wp2
        go_ret2
        have HN:=kindD_sym_none HS.out fun i h1 h2 h3=>HQ.out i h1 (by omega) h3
        exact ⟨by rw [←HK.out,HN];rfl,HBW.out⟩
     ·go_ret2
      have HN:=kindD_sym_none HS.out fun i h1 h2 h3 h4=>by
       have hh:ds=nameB i:=h4
       have:=HBB.out.2 (by rw [hh];exact name_prefix h3)
       simp_all
      refine ⟨by rw [←HK.out,HN];rfl,?_⟩
      (repeat (first|exact Below.refl _ _|refine Below.alloc ?_ (by simp) _|refine Below.setCell ?_ (by simp) _))
    ·have HN:=Lib.hid (kindD_none hn hs)
     have Hs:=Lib.hid hs
     have Hn:=Lib.hid hn
     clear hs hn
     go_enter Tryd.func10,Tryd.ntmps10
     go_wp2_with (first
      |(go_at_call 20;exfalso;exact Hn.out ⟨(by assumption:dk=5),toEmpt (by assumption),(by assumption:de=0),(by assumption:dl=[])⟩)
      |(go_at_call 22;exfalso;exact Hs.out ⟨(by assumption:dk=20),(by assumption:dm=0),(by assumption:de=0),(by assumption:dl=[])⟩))
     all_goals
      go_ret2
      refine ⟨by rw [←HK.out,HN.out];rfl,?_⟩
      (repeat (first|exact Below.refl _ _|refine Below.alloc ?_ (by simp) _|refine Below.setCell ?_ (by simp) _))
 ·have hans:kindOf (.mk k m s e l)=none:=by
   exact if_neg hd
  rw [hans]
  have HD:=Lib.hid hd
  clear hd hl
  go_enter Tryd.func10,Tryd.ntmps10
  go_wp2
  all_goals first
   |(go_ret2;exact ⟨rfl,(Below.refl _ _).alloc (Nat.le_refl _) _⟩)
   |(exfalso;exact HD.out ⟨(by assumption:k=24),len_of_bne2 (by assumption)⟩)
theorem kind_any {N B:Nat} {d:VT} {v:Value} {w:World} {t:TypeId} (h:VAt B w N v d) (hB:B≤w.heap.size)
 (hsp:w.heap[0]? =some (.cells (Lib.asciiSpaceTab.map fun z=>Value.int .u8 z).toArray t (0,0))):
 Calls Tryd.prog 10 #[v] w fun r w'=>r= .returned (kindAns (kindOf d))∧Below w.heap.size w w':=by
 obtain ⟨hf,lv,rfl,hl⟩:=h
 obtain ⟨k,m,s,e,l⟩:=d
 exact kind_raw hl hf hB hsp
end Go.Proofs.YtfoiaiblggapeaaDoor.Va
namespace Go.Proofs.YtfoiaiblggapeaaDoor.Va
open Go Go.RowKit Go.Shelf Nu
attribute [local go_sem] Oper.semAt_some
attribute [-go_sem] Go.Instr.loadAt Go.Instr.storeAt
abbrev encI {B:Nat} {w0:World} {N:Nat} (x:It B w0 N):Array Value:=#[.int .i64 x.d,x.t.agg x.lv]
theorem each_stops (F:Fence) (hd:F.depth=none) (h1:F.fn 52) (h2:F.fn 53) (hro:F.round=none) (n Bt br B N:Nat) (t:VT) (lv:Value) (w:World) (hBt:Bt<w.heap.size) (_hne:Bt≠br) (hBr:B≤br) (hBw:B≤w.heap.size) (hbr:br<w.heap.size) (hf:t.Fine) (hl:LAt B w N lv t.list) (hc:Cells w Bt 0 (t.cells lv)) (hn:nodes t≤900000000):
 SeqStopsK F n Tryd.prog 52 #[.pointer (some ⟨Bt,0,none⟩)] (encI (B:=B) (w0:=w) (N:=N)) (Kc br) (fun ys=>FullC t 1 ys∧FullD t 1 ys) (PrefC t 1) (nodes t) w:=fun l J Jx W hW hJ _ hY h0=>by
 have hdd:∀ k:Nat,(F.depth.isSome=true→1≤k):=fun k h=>by rw [hd] at h;cases h
 have hw:=walkIn F hd h2 hro l br B N (nodes t) w hBr hBw J Jx (fun s A C hs hg=>hJ s A C none hs hg (fun r e=>by cases e)) (fun m pre x W1 hj hlt=>yieldAt_any hd m (hY pre x W1 hj hlt)) N (Nat.le_refl _) (n-1) t lv 1 [] W hf hl (Kc.of_below hW) (Nat.lt_of_lt_of_le hbr hW.size) h0 (by simp) (by omega)
 have l1:=wload_value (hc.below hW hBt)
 have HW:=Lib.hid hw
 clear hw hf hl hc hY hJ h0 hW
 refine callsIn_of_wp Tryd.func52 rfl h1 ?_ hro
 simp only [Tryd.ntmps52,List.size_toArray,List.length_cons,List.length_nil,Nat.reduceAdd,Nat.reduceSub,Array.replicate_succ,Array.replicate_zero,List.push_toArray,List.append_toArray,List.nil_append,List.cons_append]
 gi_wp2_with ((try refine ⟨hdd _,?_⟩);gi_at_call 53;refine HW.out.mono ?_;rintro e W1 (⟨rfl,_,ys,_,hfull,hJ1⟩|⟨rfl,q,hq,hx⟩))
 ·go_end0
  exact ⟨⟨_,rfl⟩,.inl ⟨ys,hfull,by simpa using hJ1⟩⟩
 ·go_end0
  exact ⟨⟨_,rfl⟩,.inr ⟨q,hq,by simpa using hx⟩⟩
theorem each_in (F:Fence) (n:Nat) (h:F.fn 36) (hro:F.round=none) (t:VT) (lv:Value) (w:World):
 CallsIn F n Tryd.prog 36 #[t.agg lv] w fun e w'=>e= .returned (.func (.func 52) #[] #[.pointer (some ⟨w.heap.size,0,none⟩)])∧w'=w.alloc (.cells (t.cells lv).toArray 26):=by
 refine callsIn_of_wp Tryd.func36 rfl h ?_ hro
 simp only [Tryd.ntmps36,List.size_toArray,List.length_cons,List.length_nil,Nat.reduceAdd,Nat.reduceSub,Array.replicate_succ,Array.replicate_zero,List.push_toArray,List.append_toArray,List.nil_append,List.cons_append]
 gi_wp2
 go_ret
 exact ⟨rfl,rfl⟩
end Go.Proofs.YtfoiaiblggapeaaDoor.Va
namespace Go.Proofs.YtfoiaiblggapeaaDoor.Va
open Go Go.RowKit Go.Shelf Nu
attribute [local go_sem] Oper.semAt_some
theorem wload_err {w:World} {a:Addr} {v:Value} (h:w.cell? a=some v):(Instr.loadAt 33 (.pointer (some a))).run Tryd.prog w= .ok v w:=by
 have:=Tryd.underlying33
 have:=Tryd.sizeOf33
 go_simp
theorem wloadVar_err {w:World} {a:Addr} {v:Value} (h:w.cell? a=some v):(loadVar 33 a).run Tryd.prog w= .ok v w:=by
 have:=Tryd.underlying33
 have:=Tryd.sizeOf33
 go_simp
theorem wstore_err {w:World} {b o:Nat} {k:Int} {u:Value} (hc:w.cell? ⟨b,o,none⟩=some u) (hf:w.frozen? ⟨b,o,none⟩=false):(Instr.storeAt 33 (.pointer (some ⟨b,o,none⟩)) (.int .i64 k)).run Tryd.prog w= .ok () (w.setCell ⟨b,o,none⟩ (.int .i64 k)):=by
 have:=Tryd.underlying33
 have:=Tryd.sizeOf33
 go_simp
attribute [-go_sem] Go.Instr.loadAt Go.Instr.storeAt
theorem kc_grown {br:Nat} {W W':World} {row:Option Nat} (hg:W.grownBy W' row) (hr:∀ r,row=some r→∃ o:Obj,W.heap[r]? =some o∧o.isCells=false) (hlo:∀ r,row=some r→br-1≤r):Kc br W W':=
 ⟨hg.os,hg.tape,hg.output,hg.size,fun k _ _ _ _ hh=>(hg.block k (Array.getElem?_eq_some_iff.1 hh).1 (fun e=>by
   obtain ⟨o,ho,hc⟩:=hr k e.symm
   rw [hh] at ho;cases ho;cases hc)).trans hh,fun k h1 h2=>hg.block k h2 (fun e=>by have:=hlo k e.symm;omega)⟩
theorem kc_b {br:Nat} {w:World} (hbr:br≤w.heap.size) (W:World) (l:Nat) (o o':Obj) (hl:w.heap.size≤l) (h:W.heap[l]? =some o) (ho:o.isCells=false) (_:o.isWalk=false):Kc br W (W.putObj l o'):=
 kc_grown (grownBy_putObj' W l o') (fun r e=>by cases e;exact ⟨o,h,ho⟩) (fun r e=>by cases e;omega)
theorem keepsFrom_below {B:Nat} {W W':World} (h:Below W.heap.size W W'):KeepsFrom B W W':=
 (show KeepsOthers W W' from ⟨h.size,fun k _ hk _=>(h.block k (Array.getElem?_eq_some_iff.1 hk).1).trans hk⟩).from B
def CI {B:Nat} {w0:World} {N:Nat} (br:Nat) (pre:List (It B w0 N)) (W:World):Prop:=(∀ y∈pre,y.ok)∧Kc br w0 W∧W.cell? ⟨br,0,none⟩=some (.int .i64 0)∧W.frozen? ⟨br,0,none⟩=false∧br<W.heap.size
def CX {B:Nat} {w0:World} {N:Nat} (br:Nat) (c:Code) (pre:List (It B w0 N)) (W:World):Prop:=c= .ret∧Kc br w0 W∧∃ q y,pre=q++[y]∧(∀ z∈q,z.ok)∧¬y.ok∧W.cell? ⟨br,0,none⟩=some (.int .i64 (aloneT y.t y.d))
theorem CI.own {B:Nat} {w0:World} {N br B':Nat} (hbr:br-1≤B'):OwnFrom B' (CI (B:=B) (w0:=w0) (N:=N) br):=fun s W W' row h hg hr=>by
 obtain ⟨h1,h2,h3,h4,h5⟩:=h
 have hr':∀ r,row=some r→∃ o:Obj,W.heap[r]? =some o∧o.isCells=false:=fun r e=>(hr r e).2
 exact ⟨h1,h2.trans (kc_grown hg hr' fun r e=>Nat.le_trans hbr (hr r e).1),cell_kept h3 hg hr',(frozen_kept h3 hg hr').trans h4,Nat.lt_of_lt_of_le h5 hg.size⟩
theorem CX.own {B:Nat} {w0:World} {N br B':Nat} (hbr:br-1≤B') (c:Code):OwnFrom B' (CX (B:=B) (w0:=w0) (N:=N) br c):=fun s W W' row h hg hr=>by
 obtain ⟨h1,h2,q,y,h3,h4,h5,h6⟩:=h
 have hr':∀ r,row=some r→∃ o:Obj,W.heap[r]? =some o∧o.isCells=false:=fun r e=>(hr r e).2
 exact ⟨h1,h2.trans (kc_grown hg hr' fun r e=>Nat.le_trans hbr (hr r e).1),q,y,h3,h4,h5,cell_kept h6 hg hr'⟩
theorem Kc.setCell {br:Nat} {a w:World} (h:Kc br a w) (j:Nat) (u:Value):Kc br a (w.setCell ⟨br,j,none⟩ u):=
 h.trans ⟨rfl,rfl,rfl,by simp [World.setCell],fun k cs T fr hk hh=>(Below.heap_setCell w ⟨br,j,none⟩ u k hk).trans hh,fun k h1 _=>Below.heap_setCell w ⟨br,j,none⟩ u k (by show k≠br;omega)⟩
theorem cells_grown {W W':World} {row:Option Nat} {b o:Nat} {cs:List Value} (h:Cells W b o cs) (hg:W.grownBy W' row) (hr:∀ r,row=some r→∃ o:Obj,W.heap[r]? =some o∧o.isCells=false):Cells W' b o cs:=fun j u hu=>cell_kept (h j u hu) hg hr
theorem results_mid0 {P:Program} {fn:Func} {p:Tmp} {ty:TypeId} {tmps:Array Value} {w:World} {g:Nat} {v:Value} (h:fn.results= #[.cell p ty]) (hp:tmps.getD p undef= .pointer (some ⟨g,0,none⟩)) (hld:(loadVar ty ⟨g,0,none⟩).run P w= .ok v w):
 (results fn tmps).run P w= .ok v w:=by
 have hp':tmps[p]?.getD undef= .pointer (some ⟨g,0,none⟩):=by simpa using hp
 simp [results,h,hp',asAddr,hld]
theorem put_cell {V:World} {D:Nat} {a:Addr} {v:Value} (hK:V.heap[D]? =some (.deferred (some []))) (h:V.cell? a=some v):(V.putObj D (.deferred none)).cell? a=some v:=
 cell_kept h (grownBy_putObj' V D _) (fun r e=>by cases e;exact ⟨_,hK,rfl⟩)
theorem put_kc {br:Nat} {V:World} {D:Nat} (hD:br-1≤D) (hK:V.heap[D]? =some (.deferred (some []))):Kc br V (V.putObj D (.deferred none)):=
 kc_grown (grownBy_putObj' V D _) (fun r e=>by cases e;exact ⟨_,hK,rfl⟩) (fun r e=>by cases e;exact hD)
theorem check_of {Tb:World→Prop} (HAl:∀ (N B:Nat) (t:VT) (lv:Value) (d:Int) (W:World),t.Fine→LAt B W N lv t.list→B≤W.heap.size→Tb W→Calls Tryd.prog 37 #[t.agg lv,.int .i64 d] W fun r w'=>r= .returned (.int .i64 (aloneT t d))∧Below W.heap.size W w')
 {N:Nat} (t:VT) (lv:Value) (w:World) (hTb:∀ W,Kc (w.heap.size+1) w W→Tb W) (hf:t.Fine) (hl:LAt w.heap.size w N lv t.list) (hn:nodes t≤900000000):
 Calls Tryd.prog 24 #[t.agg lv] w fun r w'=>r= .returned (.int .i64 (checkT t 1))∧Kc (w.heap.size+1) w w':=by
 refine (callsIn_wide (n:=8)).1 ?_
 obtain ⟨W1,hW1⟩:∃ W1,(w.alloc (.cells #[.int .i64 t.kind,.int .u64 t.num,.string t.text,lv,.int .i64 t.elem] 26)).alloc (.cells #[.int .i64 0] 33)=W1:=⟨_,rfl⟩
 obtain ⟨b1,b2,b3,b4⟩:=two_blocks hW1
 have k1:Cells W1 w.heap.size 0 (t.cells lv):=Cells.of_heap (cs:=t.cells lv) b1
 have l1:=wload_value k1
 obtain ⟨W2,hW2⟩:∃ W2,W1.alloc (.cells (t.cells lv).toArray 26)=W2:=⟨_,rfl⟩
 obtain ⟨d1,d2,d3⟩:=one_block hW2
 have k2:Cells W2 W1.heap.size 0 (t.cells lv):=Cells.of_heap (cs:=t.cells lv) d1
 have hbw:Below w.heap.size w W2:=b4.trans (d3.mono (by omega))
 have c2:W2.heap[w.heap.size+1]? =some (.cells #[.int .i64 0] 33 (0,0)):=(d3.block _ (by omega)).trans b2
 have h0:CI (B:=w.heap.size) (w0:=W2) (N:=N) (w.heap.size+1) [] W2:=⟨by simp,Kc.refl _ _,by simp [World.cell?,c2],by simp [World.frozen?,c2],by omega⟩
 have hst:=each_stops Fence.wide rfl trivial trivial rfl (8-1) W1.heap.size (w.heap.size+1) w.heap.size N t lv W2 (by omega) (by omega) (by omega) (by omega) (by omega) hf (hl.below hbw) k2 hn
 have HKw:=Lib.hid (Kc.of_below (br:=w.heap.size+1) hbw)
 have gE:Fence.wide.fn 36:=trivial
 refine callsIn_of_wp_marks Tryd.func24 rfl trivial ?_ rfl
 simp only [Tryd.ntmps24,List.size_toArray,List.length_cons,List.length_nil,Nat.reduceAdd,Nat.reduceSub,Array.replicate_succ,Array.replicate_zero,List.push_toArray,List.append_toArray,List.nil_append,List.cons_append]
 gi_wp2_with (gi_at_call 36;refine (each_in Fence.wide _ trivial rfl t lv _).mono ?_;rintro e w' ⟨rfl,rfl⟩;rw [hW2])
 rw [b3] at hst
 clear hW1 hW2 l1 k1 b1 b2 b4 d1 d3 c2
 have hzz:w.heap.size+2<W2.heap.size:=by omega
 refine wpIn_rangeFunc_ownH rfl (by decide) (gf:=52) (lb:=#[.pointer (some ⟨w.heap.size+2,0,none⟩)]) rfl trivial (enters_of Tryd.func52 (by kernel_rfl) rfl)
  hst Kc.trans (kc_b (by omega)) (Below.refl _ _) (fun _=>rfl)
  (CI (w.heap.size+1)) (CX (w.heap.size+1)) (CI.own (by omega)) (CX.own (by omega)) h0
  (fun x a' W=>∃ Bx,Cells W Bx 0 (x.t.cells x.lv)∧a'= {tmps:=#[t.agg lv,.pointer (some ⟨w.heap.size,0,none⟩),.pointer (some ⟨w.heap.size+1,0,none⟩),.int .i64 x.d,.pointer (some ⟨Bx,0,none⟩),undef,t.agg lv,.func (.func 52) #[] #[.pointer (some ⟨w.heap.size+2,0,none⟩)],.int .i64 x.d,x.t.agg x.lv,undef,undef,undef,undef,undef,undef],defers:=[]})
  ?hAx ?assign ?body ?done ?stop
 case hAx=>
  rintro x a' _ A C row ⟨Bx,hc,rfl⟩ hg hr
  exact ⟨Bx,cells_grown hc hg (fun r e=>(hr r e).2),rfl⟩
 case assign=>
  rintro l pre x W K hI hK
  obtain ⟨p,c,hx⟩:=x.lat.slice
  simp only [encI,hx] at hK ⊢
  obtain ⟨V1,V2,hV1,st1,kv,kb,kg⟩:=wbox_value W x.t p x.t.list.length c
  have KV:=Lib.hid kv
  have KB:=Lib.hid kb
  have KG:=Lib.hid kg
  clear kv kb kg
  gi_wp2
  exact hK _ _ (keepsFrom_below KB.out) (Kc.of_below KB.out) (CI.own (B':=w.heap.size) (by omega) _ _ _ none hI KG.out (fun r e=>by cases e)) ⟨_,KV.out,rfl⟩
 case body=>
  rintro l pre x a' W hl hr hI ⟨Bx,hcx,rfl⟩ hlt
  have lx:=wload_value hcx
  have hlat:=x.lat.kc hI.2.1 (by omega)
  have HA:=HAl N w.heap.size x.t x.lv x.d W x.fine hlat (by have:=hI.2.2.2.2;omega) (hTb W (HKw.out.trans hI.2.1))
  obtain ⟨k,hk⟩:∃ k,aloneT x.t x.d=k:=⟨_,rfl⟩
  rw [hk] at HA
  have HAh:=Lib.hid HA
  have HI:=Lib.hid hI
  have HKk:=Lib.hid hk
  clear HA hI hk hcx hlat
  have gA:(Fence.wide.inRound l).fn 37:=trivial
  have gA2:Fence.wide.fn 37:=trivial
  by_cases h0:k=0
  ·subst h0
   gi_wp2_with (gi_at_call 37;refine (CallsIn.inRound l (callsIn_wide.2 HAh.out)).mono ?_;rintro e W3 ⟨rfl,hb3⟩)
   obtain ⟨i1,i2,i3,i4,i5⟩:=HI.out
   exact ⟨keepsFrom_below hb3,Kc.of_below hb3,fun y hy=>by
    rcases List.mem_append.1 hy with h|h
    ·exact i1 y h
    ·obtain rfl:y=x:=by simpa using h
     exact HKk.out,i2.trans (Kc.of_below hb3),(hb3.cell (p:=⟨w.heap.size+1,0,none⟩) i5).trans i3,(hb3.frozen (p:=⟨w.heap.size+1,0,none⟩) i5).trans i4,Nat.lt_of_lt_of_le i5 hb3.size⟩
  ·have hne:(k !=0)=true:=by simp [h0]
   gi_wp2_with (gi_at_call 37;refine (CallsIn.inRound l (callsIn_wide.2 HAh.out)).mono ?_;rintro e W3 ⟨rfl,hb3⟩
                have hst3:=wstore_err (k:=k) ((hb3.cell (p:=⟨w.heap.size+1,0,none⟩) HI.out.2.2.2.2).trans HI.out.2.2.1) ((hb3.frozen (p:=⟨w.heap.size+1,0,none⟩) HI.out.2.2.2.2).trans HI.out.2.2.2.1))
   have HST:=Lib.hid hb3
   obtain ⟨i1,i2,i3,i4,i5⟩:=HI.out
   exact ⟨(keepsFrom_below hb3).trans ((KeepsOthers.setCell _ _ _).from _),rfl,Kc.setCell (i2.trans (Kc.of_below hb3)) 0 _,pre,x,rfl,i1,(by intro h;exact h0 (HKk.out.symm.trans h)),by rw [HKk.out];exact World.cell?_setCell_same _ _ _ ((hb3.cell (p:=⟨w.heap.size+1,0,none⟩) i5).trans i3)⟩
 case done=>
  rintro D ys W hD hfull ⟨i1,i2,i3,i4,i5⟩ hK
  have hst3:=wstore_err (k:=0) i3 i4
  have HV:Hid (checkT t 1=0):=hfull.1 i1
  have hK':(W.setCell ⟨w.heap.size+1,0,none⟩ (.int .i64 0)).heap[D]? =some (.deferred (some [])):=(Below.heap_setCell _ _ _ _ (by show D≠w.heap.size+1;omega)).trans hK
  have hc':=World.cell?_setCell_same W ⟨w.heap.size+1,0,none⟩ (.int .i64 0) i3
  have HKe:=Lib.hid ((Kc.setCell (HKw.out.trans i2) 0 (.int .i64 0)).trans (put_kc (by omega) hK'))
  have HC:=Lib.hid (wloadVar_err (put_cell hK' hc'))
  have HKd:=Lib.hid hK'
  clear hK hK' hc' i1 i2 i3 i4 i5 hfull
  gi_wp2
  refine ⟨by simp,.inl ⟨_,_,rfl,run_takeDeferred HKd.out,?_⟩⟩
  exact ⟨_,results_mid0 rfl rfl HC.out,by rw [HV.out],HKe.out⟩
 case stop=>
  rintro D c pre W hD hq ⟨rfl,hk,q,y,rfl,hok,hny,hc⟩ hK
  have HV:Hid (checkT t 1=aloneT y.t y.d):=hq.2 q y rfl hok hny
  have HKe:=Lib.hid ((HKw.out.trans hk).trans (put_kc (by omega) hK))
  have HC:=Lib.hid (wloadVar_err (put_cell hK hc))
  have HKd:=Lib.hid hK
  clear hk hok hny hc hK hq
  gi_wp2
  refine ⟨by simp,.inl ⟨_,_,rfl,run_takeDeferred HKd.out,?_⟩⟩
  exact ⟨_,results_mid0 rfl rfl HC.out,by rw [HV.out],HKe.out⟩
end Go.Proofs.YtfoiaiblggapeaaDoor.Va
namespace Go.Proofs.YtfoiaiblggapeaaDoor.Va
open Go Go.RowKit Go.Shelf Nu
attribute [local go_sem] Oper.semAt_some
theorem wload_int {w:World} {a:Addr} {v:Value} (h:w.cell? a=some v):(Instr.loadAt 3 (.pointer (some a))).run Tryd.prog w= .ok v w:=by
 have:=Tryd.underlying3
 have:=Tryd.sizeOf3
 go_simp
theorem wstore_int {w:World} {b o:Nat} {k:Int} {u:Value} (hc:w.cell? ⟨b,o,none⟩=some u) (hf:w.frozen? ⟨b,o,none⟩=false):(Instr.storeAt 3 (.pointer (some ⟨b,o,none⟩)) (.int .i64 k)).run Tryd.prog w= .ok () (w.setCell ⟨b,o,none⟩ (.int .i64 k)):=by
 have:=Tryd.underlying3
 have:=Tryd.sizeOf3
 go_simp
attribute [-go_sem] Go.Instr.loadAt Go.Instr.storeAt
def DI {B:Nat} {w0:World} {N:Nat} (br:Nat) (pre:List (It B w0 N)) (W:World):Prop:=Kc br w0 W∧W.cell? ⟨br,0,none⟩=some (.int .i64 (maxD 0 pre))∧W.frozen? ⟨br,0,none⟩=false∧br<W.heap.size
theorem DI.own {B:Nat} {w0:World} {N br B':Nat} (hbr:br-1≤B'):OwnFrom B' (DI (B:=B) (w0:=w0) (N:=N) br):=fun s W W' row h hg hr=>by
 obtain ⟨h2,h3,h4,h5⟩:=h
 have hr':∀ r,row=some r→∃ o:Obj,W.heap[r]? =some o∧o.isCells=false:=fun r e=>(hr r e).2
 exact ⟨h2.trans (kc_grown hg hr' fun r e=>Nat.le_trans hbr (hr r e).1),cell_kept h3 hg hr',(frozen_kept h3 hg hr').trans h4,Nat.lt_of_lt_of_le h5 hg.size⟩
theorem depth_any {N:Nat} (t:VT) (lv:Value) (w:World) (hf:t.Fine) (hl:LAt w.heap.size w N lv t.list) (hn:nodes t≤900000000):
 Calls Tryd.prog 27 #[t.agg lv] w fun r w'=>r= .returned (.int .i64 (depthT t:Nat))∧Kc (w.heap.size+1) w w':=by
 refine (callsIn_wide (n:=8)).1 ?_
 obtain ⟨W1,hW1⟩:∃ W1,(w.alloc (.cells #[.int .i64 t.kind,.int .u64 t.num,.string t.text,lv,.int .i64 t.elem] 26)).alloc (.cells #[.int .i64 0] 3)=W1:=⟨_,rfl⟩
 obtain ⟨b1,b2,b3,b4⟩:=two_blocks hW1
 have e0:W1.cell? ⟨w.heap.size+1,0,none⟩=some (.int .i64 0):=by simp [World.cell?,b2]
 have e1:W1.frozen? ⟨w.heap.size+1,0,none⟩=false:=by simp [World.frozen?,b2]
 have hst0:=wstore_int (k:=0) e0 e1
 have hsame:W1.setCell ⟨w.heap.size+1,0,none⟩ (.int .i64 0)=W1.setCell ⟨w.heap.size+1,0,none⟩ (.int .i64 0):=rfl
 clear hsame
 obtain ⟨V1,hV1⟩:∃ V1,W1.setCell ⟨w.heap.size+1,0,none⟩ (.int .i64 0)=V1:=⟨_,rfl⟩
 rw [hV1] at hst0
 have v1:V1.heap[w.heap.size]? =some (.cells #[.int .i64 t.kind,.int .u64 t.num,.string t.text,lv,.int .i64 t.elem] 26 (0,0)):=by rw [←hV1];exact (Below.heap_setCell _ _ _ _ (by simp)).trans b1
 have v2:V1.cell? ⟨w.heap.size+1,0,none⟩=some (.int .i64 0):=by rw [←hV1];exact World.cell?_setCell_same _ _ _ e0
 have v3:V1.frozen? ⟨w.heap.size+1,0,none⟩=false:=by rw [←hV1,World.frozen?_setCell];exact e1
 have v4:V1.heap.size=w.heap.size+2:=by rw [←hV1];simp [World.setCell,b3]
 have v5:Below w.heap.size w V1:=by rw [←hV1];exact b4.setCell (p:=⟨w.heap.size+1,0,none⟩) (Nat.le_succ _) _
 clear hV1 e0 e1 b1 b2 b4
 have k1:Cells V1 w.heap.size 0 (t.cells lv):=Cells.of_heap (cs:=t.cells lv) v1
 have l1:=wload_value k1
 obtain ⟨W2,hW2⟩:∃ W2,V1.alloc (.cells (t.cells lv).toArray 26)=W2:=⟨_,rfl⟩
 obtain ⟨d1,d2,d3⟩:=one_block hW2
 have k2:Cells W2 V1.heap.size 0 (t.cells lv):=Cells.of_heap (cs:=t.cells lv) d1
 have hbw:Below w.heap.size w W2:=v5.trans (d3.mono (by omega))
 have h0:DI (B:=w.heap.size) (w0:=W2) (N:=N) (w.heap.size+1) [] W2:=⟨Kc.refl _ _,(d3.cell (p:=⟨w.heap.size+1,0,none⟩) (by show w.heap.size+1<_;omega)).trans v2,(d3.frozen (p:=⟨w.heap.size+1,0,none⟩) (by show w.heap.size+1<_;omega)).trans v3,by omega⟩
 have hst:=each_stops Fence.wide rfl trivial trivial rfl (8-1) V1.heap.size (w.heap.size+1) w.heap.size N t lv W2 (by omega) (by omega) (by omega) (by omega) (by omega) hf (hl.below hbw) k2 hn
 have HKw:=Lib.hid (Kc.of_below (br:=w.heap.size+1) hbw)
 have gE:Fence.wide.fn 36:=trivial
 refine callsIn_of_wp_marks Tryd.func27 rfl trivial ?_ rfl
 simp only [Tryd.ntmps27,List.size_toArray,List.length_cons,List.length_nil,Nat.reduceAdd,Nat.reduceSub,Array.replicate_succ,Array.replicate_zero,List.push_toArray,List.append_toArray,List.nil_append,List.cons_append]
 gi_wp2_with (gi_at_call 36;refine (each_in Fence.wide _ trivial rfl t lv _).mono ?_;rintro e w' ⟨rfl,rfl⟩;rw [hW2])
 rw [v4] at hst
 clear hW1 hW2 l1 k1 d1 d3 v1 v2 v3 v5 hst0
 have hzz:w.heap.size+2<W2.heap.size:=by omega
 refine wpIn_rangeFunc_ownH rfl (by decide) (gf:=52) (lb:=#[.pointer (some ⟨w.heap.size+2,0,none⟩)]) rfl trivial (enters_of Tryd.func52 (by kernel_rfl) rfl)
  hst Kc.trans (kc_b (by omega)) (Below.refl _ _) (fun _=>rfl)
  (DI (w.heap.size+1)) (fun _ _ _=>False) (DI.own (by omega)) (fun _ _ _ _ _ hs _ _=>hs) h0
  (fun x a' W=>a'= {tmps:=#[t.agg lv,.pointer (some ⟨w.heap.size,0,none⟩),.int .i64 0,.pointer (some ⟨w.heap.size+1,0,none⟩),.int .i64 x.d,t.agg lv,.func (.func 52) #[] #[.pointer (some ⟨w.heap.size+2,0,none⟩)],.int .i64 x.d,x.t.agg x.lv,undef,undef,undef,undef],defers:=[]})
  ?hAx ?assign ?body ?done ?stop
 case hAx=>
  rintro x a' _ A C row h hg hr
  exact h
 case assign=>
  rintro l pre x W K hI hK
  gi_wp2
  exact hK _ _ (keepsFrom_below (Below.refl _ _)) (Kc.refl _ _) hI rfl
 case body=>
  rintro l pre x a' W hl hr ⟨i1,i2,i3,i4⟩ rfl hlt
  have lx:=wload_int i2
  have hs1:=wstore_int (k:=maxD 0 pre) i2 i3
  have hs2:=wstore_int (k:=x.d) i2 i3
  have hs3:=wstore_int (k:=max (maxD 0 pre) x.d) i2 i3
  have HN:Hid (∀ k:Int,k=max (maxD 0 pre) x.d→KeepsFrom W2.heap.size W (W.setCell ⟨w.heap.size+1,0,none⟩ (.int .i64 k))∧Kc (w.heap.size+1) W (W.setCell ⟨w.heap.size+1,0,none⟩ (.int .i64 k))∧DI (w.heap.size+1) (pre++[x]) (W.setCell ⟨w.heap.size+1,0,none⟩ (.int .i64 k))):=fun k hk=>
   ⟨(KeepsOthers.setCell _ _ _).from _,Kc.setCell (Kc.refl _ _) 0 _,Kc.setCell i1 0 _,by rw [World.cell?_setCell_same _ _ _ i2,hk];simp [maxD],(World.frozen?_setCell ..).trans i3,by simpa [World.setCell] using i4⟩
  clear i1 i2 i3 i4 d2
  gi_wp2
  all_goals exact HN.out _ (by omega)
 case done=>
  rintro D ys W hD ⟨_,hfull⟩ ⟨i1,i2,i3,i4⟩ hK
  have lx:=wload_int i2
  have HV:Hid (maxD 0 ys=(depthT t:Nat)):=by show _=_;rw [hfull 0];omega
  have HKe:=Lib.hid ((HKw.out.trans i1).trans (put_kc (by omega) hK))
  have HKd:=Lib.hid hK
  clear i1 i2 i3 i4 hK hfull
  gi_wp2
  refine ⟨by simp,.inl ⟨_,_,rfl,run_takeDeferred HKd.out,?_⟩⟩
  exact ⟨_,results_tmp rfl _ _ _,by rw [←HV.out];rfl,HKe.out⟩
 case stop=>
  rintro D c pre W hD hq h hK
  exact h.elim
end Go.Proofs.YtfoiaiblggapeaaDoor.Va
