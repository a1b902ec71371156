/-
  The texts T0 T1 T9 TA TB TC T3 T4 T5 T6 T7 T8 of this claim, one behind the other.
-/
import Derived.Test.YtfjlnfogbfmpiaaGreatDoorZPSB1
import Derived.Test.YtfjlnfogbfmpiaaGreatDoorZPSA0
import Derived.Deep.MidRow
import Derived.Deep.RegionHeld3
import Derived.Deep.DrawnRows
import Derived.Deep.QuietTactic
import Derived.BigQuiet
set_option maxHeartbeats 40000000
set_option maxRecDepth 100000
namespace Go.Proofs.YtfjlnfogbfmpiaaGreatDoor.Va
open Go Go.RowKit Nu
theorem load_state {w:World} {b o:Nat} {s:ST} {il al lv:Value} (h:Cells w b o (s.cells il al lv)):(Instr.loadAt 30 (.pointer (some ⟨b,o,none⟩))).run Tryz.prog w= .ok (s.agg il al lv) w:=
 Go.run_loadAt_mid w b o 30 (s.cells il al lv) _ h Tryz.underlying30 rfl (by kernel_rfl)
theorem load_value {w:World} {b o:Nat} {t:VT} {lv:Value} (h:Cells w b o (t.cells lv)):(Instr.loadAt 25 (.pointer (some ⟨b,o,none⟩))).run Tryz.prog w= .ok (t.agg lv) w:=
 Go.run_loadAt_mid w b o 25 (t.cells lv) _ h Tryz.underlying25 rfl (by kernel_rfl)
theorem load_slice {w:World} {a:Addr} {v:Value} (h:w.cell? a=some v):(Instr.loadAt 28 (.pointer (some a))).run Tryz.prog w= .ok v w:=by
 have:=Tryz.underlying28
 have:=Tryz.sizeOf28
 go_simp
theorem Cells.info {w:World} {b o:Nat} {s:ST} {il al lv:Value} (h:Cells w b o (s.cells il al lv)):Cells w b (o+5) (s.info.cells il):=fun j u hu=>by
 have hj:j<5:=(List.getElem?_eq_some_iff.1 hu).1
 have:=h (5+j) u (by
  match j,hj with
  |0,_=>exact hu
  |1,_=>exact hu
  |2,_=>exact hu
  |3,_=>exact hu
  |4,_=>exact hu)
 rwa [←Nat.add_assoc] at this
theorem Cells.ann {w:World} {b o:Nat} {s:ST} {il al lv:Value} (h:Cells w b o (s.cells il al lv)):Cells w b (o+12) (s.ann.cells al):=fun j u hu=>by
 have hj:j<5:=(List.getElem?_eq_some_iff.1 hu).1
 have:=h (12+j) u (by
  match j,hj with
  |0,_=>exact hu
  |1,_=>exact hu
  |2,_=>exact hu
  |3,_=>exact hu
  |4,_=>exact hu)
 rwa [←Nat.add_assoc] at this
theorem cells_new {w:World} {cs:List Value} {T:TypeId}:Cells (w.alloc (.cells cs.toArray T)) w.heap.size 0 cs:=Cells.of_heap (heap_alloc_new _ _)
abbrev sbox (w:World) (s:ST) (il al lv:Value):World:=w.alloc (.cells #[.int .i64 s.kind,.int .i64 s.section_,.int .i64 s.offset,.string s.cond,.string s.text,.int .i64 s.info.kind,.int .u64 s.info.num,.string s.info.text,il,.int .i64 s.info.elem,.bool s.failed,.bool s.elsewhere,.int .i64 s.ann.kind,.int .u64 s.ann.num,.string s.ann.text,al,.int .i64 s.ann.elem,.string s.txn,lv] 30)
theorem sbox_cells (w:World) (s:ST) (il al lv:Value):Cells (sbox w s il al lv) w.heap.size 0 (s.cells il al lv):=cells_new (cs:=s.cells il al lv)
theorem sbox_below (w:World) (s:ST) (il al lv:Value):Below w.heap.size w (sbox w s il al lv):=(one_block rfl).2.2
theorem sbox_size (w:World) (s:ST) (il al lv:Value):(sbox w s il al lv).heap.size=w.heap.size+1:=heap_alloc_size _ _
theorem store_slice {w:World} {b o:Nat} {a:Option Addr} {n c:Nat} {u:Value} (hc:w.cell? ⟨b,o,none⟩=some u) (hf:w.frozen? ⟨b,o,none⟩=false):(Instr.storeAt 28 (.pointer (some ⟨b,o,none⟩)) (.slice a n c)).run Tryz.prog w= .ok () (w.setCells b o [.slice a n c]):=by
 have:=Tryz.underlying28
 have:=Tryz.sizeOf28
 show _=Result.ok () (w.setCell ⟨b,o,none⟩ (.slice a n c))
 go_simp
theorem load_str {w:World} {a:Addr} {v:Value} (h:w.cell? a=some v):(Instr.loadAt 9 (.pointer (some a))).run Tryz.prog w= .ok v w:=by
 have:=Tryz.underlying9
 have:=Tryz.sizeOf9
 go_simp
theorem load_int {w:World} {a:Addr} {v:Value} (h:w.cell? a=some v):(Instr.loadAt 3 (.pointer (some a))).run Tryz.prog w= .ok v w:=by
 have:=Tryz.underlying3
 have:=Tryz.sizeOf3
 go_simp
theorem load_bool {w:World} {a:Addr} {v:Value} (h:w.cell? a=some v):(Instr.loadAt 4 (.pointer (some a))).run Tryz.prog w= .ok v w:=by
 have:=Tryz.underlying4
 have:=Tryz.sizeOf4
 go_simp
theorem cell_of {w:World} {b:Nat} {cs:List Value} (h:Cells w b 0 cs) (j:Nat) (u:Value) (hu:cs[j]? =some u):w.cell? ⟨b,j,none⟩=some u:=by
 have:=h j u hu
 rwa [Nat.zero_add] at this
attribute [-go_sem] Go.Instr.loadAt Go.Instr.storeAt
theorem results_mid {P:Program} {fn:Func} {p:Tmp} {ty:TypeId} {tmps:Array Value} {w:World} {g:Nat} {v:Value} (h:fn.results= #[.cell p ty]) (hp:tmps.getD p undef= .pointer (some ⟨g,0,none⟩)) (hld:(loadVar ty ⟨g,0,none⟩).run P w= .ok v w):
 (results fn tmps).run P w= .ok v w:=by
 have hp':tmps[p]?.getD undef= .pointer (some ⟨g,0,none⟩):=by simpa using hp
 simp [results,h,hp',asAddr,hld]
def fcells (c t:ByteArray) (i:VT) (il:Value):List Value:=[.string c,.string t,.int .i64 i.kind,.int .u64 i.num,.string i.text,il,.int .i64 i.elem]
theorem load_fault {w:World} {b o:Nat} {c t:ByteArray} {i:VT} {il:Value} (h:Cells w b o (fcells c t i il)):(Instr.loadAt 27 (.pointer (some ⟨b,o,none⟩))).run Tryz.prog w= .ok (.agg #[.string c,.string t,.int .i64 i.kind,.int .u64 i.num,.string i.text,il,.int .i64 i.elem]) w:=
 Go.run_loadAt_mid w b o 27 (fcells c t i il) _ h Tryz.underlying27 rfl (by kernel_rfl)
theorem loadVar_fault {w:World} {b o:Nat} {c t:ByteArray} {i:VT} {il:Value} (h:Cells w b o (fcells c t i il)):(loadVar 27 ⟨b,o,none⟩).run Tryz.prog w= .ok (.agg #[.string c,.string t,.int .i64 i.kind,.int .u64 i.num,.string i.text,il,.int .i64 i.elem]) w:=
 Go.run_loadVar_mid w b o 27 (fcells c t i il) _ h Tryz.underlying27 rfl (by kernel_rfl)
theorem store_value {w:World} {b o:Nat} {t:VT} {a:Option Addr} {n c:Nat} (h:w.there b o 5):(Instr.storeAt 25 (.pointer (some ⟨b,o,none⟩)) (.agg #[.int .i64 t.kind,.int .u64 t.num,.string t.text,.slice a n c,.int .i64 t.elem])).run Tryz.prog w= .ok () (w.setCells b o (t.cells (.slice a n c))):=
 Go.run_storeAt_mid w b o 25 #[.int .i64 t.kind,.int .u64 t.num,.string t.text,.slice a n c,.int .i64 t.elem] h (by kernel_rfl) (by simp [Value.oneCell'])
theorem store_fault {w:World} {b o:Nat} {x t:ByteArray} {i:VT} {a:Option Addr} {n c:Nat} (h:w.there b o 7):(Instr.storeAt 27 (.pointer (some ⟨b,o,none⟩)) (.agg #[.string x,.string t,.int .i64 i.kind,.int .u64 i.num,.string i.text,.slice a n c,.int .i64 i.elem])).run Tryz.prog w= .ok () (w.setCells b o (fcells x t i (.slice a n c))):=
 Go.run_storeAt_mid w b o 27 #[.string x,.string t,.int .i64 i.kind,.int .u64 i.num,.string i.text,.slice a n c,.int .i64 i.elem] h (by kernel_rfl) (by simp [Value.oneCell'])
theorem cells_has {w:World} {b:Nat} {cs:List Value} (h:Cells w b 0 cs):Has w b cs.length:=fun j hj=>⟨cs[j],by have:=h j _ (List.getElem?_eq_getElem hj);rwa [Nat.zero_add] at this⟩
theorem two_cells {w w2:World} {cs ds:List Value} {T:TypeId} (h:Below (w.heap.size+2) ((w.alloc (.cells cs.toArray T)).alloc (.cells ds.toArray T)) w2):
 Cells w2 w.heap.size 0 cs∧Cells w2 (w.heap.size+1) 0 ds∧(∀ j,w2.frozen? ⟨w.heap.size,j,none⟩=false)∧(∀ j,w2.frozen? ⟨w.heap.size+1,j,none⟩=false)∧Below w.heap.size w w2∧w.heap.size+2≤w2.heap.size:=by
 obtain ⟨h1,h2,h3,h4⟩:=two_blocks (w:=w) (o:= .cells cs.toArray T) (o':= .cells ds.toArray T) rfl
 have k1:=(h.block w.heap.size (by omega)).trans h1
 have k2:=(h.block (w.heap.size+1) (by omega)).trans h2
 refine ⟨Cells.of_heap k1,Cells.of_heap k2,fun j=>by simp [World.frozen?,k1],fun j=>by simp [World.frozen?,k2],h4.trans (h.mono (by omega)),by have:=h.size;omega⟩
theorem setCells_keep {w:World} {b o:Nat} {vs:List Value} {b' o':Nat} {cs:List Value} (h:Cells w b' o' cs) (hne:b'≠b∨o'+cs.length≤o∨o+vs.length≤o'):Cells (w.setCells b o vs) b' o' cs:=
 h.keep fun j hj=>World.cell?_setCells_out b vs o w ⟨b',o'+j,none⟩ (fun h1 _=>by have h1:b'=b:=h1;rcases hne with h2|h2|h2<;>first|exact absurd h1 h2|exact .inl (by show o'+j<o;omega)|exact .inr (by show o+vs.length≤o'+j;omega))
theorem cells_app {w:World} {b o:Nat} {cs ds:List Value} (h1:Cells w b o cs) (h2:Cells w b (o+cs.length) ds):Cells w b o (cs++ds):=fun j u hu=>by
 rcases Nat.lt_or_ge j cs.length with h|h
 ·rw [List.getElem?_append_left h] at hu;exact h1 j u hu
 ·rw [List.getElem?_append_right h] at hu
  have:=h2 _ u hu
  rwa [show o+cs.length+(j-cs.length)=o+j by omega] at this
theorem cells_left {w:World} {b o:Nat} {cs ds:List Value} (h:Cells w b o (cs++ds)):Cells w b o cs:=fun j u hu=>h j u (by rw [List.getElem?_append_left (List.getElem?_eq_some_iff.1 hu).1];exact hu)
theorem cells_right {w:World} {b o:Nat} {cs ds:List Value} (h:Cells w b o (cs++ds)):Cells w b (o+cs.length) ds:=fun j u hu=>by
 have:=h (cs.length+j) u (by rw [List.getElem?_append_right (by omega)];rw [show cs.length+j-cs.length=j by omega];exact hu)
 rwa [←Nat.add_assoc] at this
noncomputable def infoS:TypeInfo:=match Tryz.prog.info? 30 with|some i=>i|none=>default
theorem info_s:Tryz.prog.info? 30=some infoS:=by kernel_rfl
theorem infoS_zero:infoS.zero.isSome=true:=by kernel_rfl
theorem infoS_size:infoS.size=19:=by kernel_rfl
theorem infoS_bytes:infoS.bytes≤4096:=of_decide_eq_true (by kernel_rfl)
theorem cells_patch {w:World} {b:Nat} {pre mid mid' post:List Value} (h:Cells w b 0 (pre++(mid++post))) (hl:mid'.length=mid.length):Cells (w.setCells b pre.length mid') b 0 (pre++(mid'++post)):=by
 have h1:=cells_left h
 have h2:=cells_left (cells_right h)
 have h3:=cells_right (cells_right h)
 have hh:=cells_has h
 rw [Nat.zero_add] at h2 h3
 refine cells_app (setCells_keep h1 (.inr (.inl (by omega)))) ?_
 rw [Nat.zero_add]
 refine cells_app (hh.setC (by simp;omega)) ?_
 rw [hl]
 exact setCells_keep h3 (.inr (.inr (by omega)))
def spre3 (s:ST):List Value:=[.int .i64 s.kind,.int .i64 s.section_,.int .i64 s.offset]
def spost3 (s:ST) (al lv:Value):List Value:=[.bool s.failed,.bool s.elsewhere,.int .i64 s.ann.kind,.int .u64 s.ann.num,.string s.ann.text,al,.int .i64 s.ann.elem,.string s.txn,lv]
def spre12 (s:ST) (il:Value):List Value:=[.int .i64 s.kind,.int .i64 s.section_,.int .i64 s.offset,.string s.cond,.string s.text,.int .i64 s.info.kind,.int .u64 s.info.num,.string s.info.text,il,.int .i64 s.info.elem,.bool s.failed,.bool s.elsewhere]
def spost12 (s:ST) (lv:Value):List Value:=[.string s.txn,lv]
def spre18 (s:ST) (il al:Value):List Value:=[.int .i64 s.kind,.int .i64 s.section_,.int .i64 s.offset,.string s.cond,.string s.text,.int .i64 s.info.kind,.int .u64 s.info.num,.string s.info.text,il,.int .i64 s.info.elem,.bool s.failed,.bool s.elsewhere,.int .i64 s.ann.kind,.int .u64 s.ann.num,.string s.ann.text,al,.int .i64 s.ann.elem,.string s.txn]
theorem split3 (s:ST) (il al lv:Value):s.cells il al lv=spre3 s++(fcells s.cond s.text s.info il++spost3 s al lv):=rfl
theorem split12 (s:ST) (il al lv:Value):s.cells il al lv=spre12 s il++(s.ann.cells al++spost12 s lv):=rfl
theorem split18 (s:ST) (il al lv:Value):s.cells il al lv=spre18 s il al++([lv]++[]):=rfl
theorem patch_info {w:World} {b:Nat} {s:ST} {il il' al lv:Value} (h:Cells w b 0 (s.cells il al lv)):Cells (w.setCells b 3 (fcells s.cond s.text s.info il')) b 0 (s.cells il' al lv):=by
 rw [split3] at h ⊢
 have k:=cells_patch (mid':=fcells s.cond s.text s.info il') h rfl
 rw [show (spre3 s).length=3 from rfl] at k
 exact k
theorem patch_ann {w:World} {b:Nat} {s:ST} {il al al' lv:Value} (h:Cells w b 0 (s.cells il al lv)):Cells (w.setCells b 12 (s.ann.cells al')) b 0 (s.cells il al' lv):=by
 rw [split12] at h ⊢
 have k:=cells_patch (mid':=s.ann.cells al') h rfl
 rw [show (spre12 s il).length=12 from rfl] at k
 exact k
theorem patch_inner {w:World} {b:Nat} {s:ST} {il al lv lv':Value} (h:Cells w b 0 (s.cells il al lv)):Cells (w.setCells b 18 [lv']) b 0 (s.cells il al lv'):=by
 rw [split18] at h ⊢
 have k:=cells_patch (mid':=[lv']) h rfl
 rw [show (spre18 s il al).length=18 from rfl] at k
 exact k
theorem cells_fault {w:World} {b o:Nat} {s:ST} {il al lv:Value} (h:Cells w b o (s.cells il al lv)):Cells w b (o+3) (fcells s.cond s.text s.info il):=by
 rw [split3] at h
 have k:=cells_left (cells_right h)
 rw [show (spre3 s).length=3 from rfl] at k
 exact k
theorem cells_ann {w:World} {b o:Nat} {s:ST} {il al lv:Value} (h:Cells w b o (s.cells il al lv)):Cells w b (o+12) (s.ann.cells al):=by
 rw [split12] at h
 have k:=cells_left (cells_right h)
 rw [show (spre12 s il).length=12 from rfl] at k
 exact k
theorem store_state {w:World} {b o:Nat} {s:ST} {a1 a2 a3:Option Addr} {n1 c1 n2 c2 n3 c3:Nat} (h:w.there b o 19):(Instr.storeAt 30 (.pointer (some ⟨b,o,none⟩)) (s.agg (.slice a1 n1 c1) (.slice a2 n2 c2) (.slice a3 n3 c3))).run Tryz.prog w= .ok () (w.setCells b o (s.cells (.slice a1 n1 c1) (.slice a2 n2 c2) (.slice a3 n3 c3))):=
 Go.run_storeAt_mid w b o 30 (s.cells (.slice a1 n1 c1) (.slice a2 n2 c2) (.slice a3 n3 c3)).toArray h (by kernel_rfl) (by simp [ST.cells,Value.oneCell'])
theorem loadVar_state {w:World} {b o:Nat} {s:ST} {il al lv:Value} (h:Cells w b o (s.cells il al lv)):(loadVar 30 ⟨b,o,none⟩).run Tryz.prog w= .ok (s.agg il al lv) w:=
 Go.run_loadVar_mid w b o 30 (s.cells il al lv) _ h Tryz.underlying30 rfl (by kernel_rfl)
def zeroS (k:Int):ST:= .mk k 0 0 ⟨#[]⟩ ⟨#[]⟩ (.mk 0 0 ⟨#[]⟩ 0 []) false false (.mk 0 0 ⟨#[]⟩ 0 []) ⟨#[]⟩ []
abbrev nilV:Value:= .slice none 0 0
abbrev lentSl (b n:Nat):Value:= .slice (some ⟨b,0,none⟩) n (n+3)
abbrev lentSS (b n:Nat):Value:= .slice (some ⟨b,0,none⟩) n (n+3)
theorem make_states (w:World) (n:Nat) (hn:n≤10000):∃ C:Array Value,C.size=(n+3)*19∧(Instr.makeSlice 28 (.int .i64 (n+3)) (.int .i64 (n+3))).run Tryz.prog w= .ok (.slice (some ⟨w.heap.size,0,none⟩) (n+3) (n+3)) (w.alloc (.cells C 30)):=by
 obtain ⟨z,hz⟩:=Option.isSome_iff_exists.1 infoS_zero
 have:=run_make (P:=Tryz.prog) w 28 30 infoS _ Tryz.underlying28 info_s hz .i64 .i64 (n+3) (n+3) (by omega) (Int.le_refl _) (by have:=infoS_bytes;have:(infoS.bytes:Int)*((n:Int)+3)≤4096*10003:=Int.mul_le_mul (by omega) (by omega) (by omega) (by omega);omega) (by omega)
 rw [infoS_size] at this
 have e:(((n:Int)+3).toNat)=n+3:=by omega
 rw [e] at this
 exact ⟨_,size_madeCells _ _,this⟩
end Go.Proofs.YtfjlnfogbfmpiaaGreatDoor.Va
namespace Go.Proofs.YtfjlnfogbfmpiaaGreatDoor.Va
open Go Go.RowKit Nu
attribute [-go_sem] Go.Instr.loadAt Go.Instr.storeAt
theorem cells_infoV {w:World} {b o:Nat} {s:ST} {il al lv:Value} (h:Cells w b o (s.cells il al lv)):Cells w b (o+5) (s.info.cells il):=cells_left (cells_right (cs:=[.int .i64 s.kind,.int .i64 s.section_,.int .i64 s.offset,.string s.cond,.string s.text]) h)
theorem patch_infoV {w:World} {b:Nat} {s:ST} {il il' al lv:Value} (h:Cells w b 0 (s.cells il al lv)):Cells (w.setCells b 5 (s.info.cells il')) b 0 (s.cells il' al lv):=by
 have k:=cells_patch (pre:=[.int .i64 s.kind,.int .i64 s.section_,.int .i64 s.offset,.string s.cond,.string s.text]) (mid:=s.info.cells il) (mid':=s.info.cells il') (post:=[.bool s.failed,.bool s.elsewhere,.int .i64 s.ann.kind,.int .u64 s.ann.num,.string s.ann.text,al,.int .i64 s.ann.elem,.string s.txn,lv]) h rfl
 exact k
theorem odd_any (w:World):Calls Tryz.prog 43 #[] w fun r w'=>r= .returned (.agg #[.int .i64 (-7),.int .i64 0,.int .i64 0,.string ⟨#[]⟩,.string ⟨#[]⟩,.int .i64 0,.int .u64 0,.string ⟨#[]⟩,.slice none 0 0,.int .i64 0,.bool false,.bool false,.int .i64 0,.int .u64 0,.string ⟨#[]⟩,.slice none 0 0,.int .i64 0,.string ⟨#[]⟩,.slice none 0 0])∧Below w.heap.size w w':=by
 obtain ⟨W1,hW1⟩:∃ W1,w.alloc (.cells #[.int .i64 0,.int .i64 0,.int .i64 0,.string ⟨#[]⟩,.string ⟨#[]⟩,.int .i64 0,.int .u64 0,.string ⟨#[]⟩,.slice none 0 0,.int .i64 0,.bool false,.bool false,.int .i64 0,.int .u64 0,.string ⟨#[]⟩,.slice none 0 0,.int .i64 0,.string ⟨#[]⟩,.slice none 0 0] 30)=W1:=⟨_,rfl⟩
 have hz:W1.heap.size=w.heap.size+1:=by rw [←hW1];exact heap_alloc_size _ _
 have hb:Below w.heap.size w W1:=by rw [←hW1];exact (one_block rfl).2.2
 have hh:W1.heap[w.heap.size]? =some (.cells ((zeroS 0).cells nilV nilV nilV).toArray 30 (0,0)):=by rw [←hW1];exact heap_alloc_new _ _
 have hc:Has W1 w.heap.size 19:=cells_has (cs:=(zeroS 0).cells nilV nilV nilV) (Cells.of_heap hh)
 have hf:∀ j,W1.frozen? ⟨w.heap.size,j,none⟩=false:=fun j=>by simp [World.frozen?,hh]
 have hst:=store_state (s:=zeroS (-7)) (a1:=none) (n1:=0) (c1:=0) (a2:=none) (n2:=0) (c2:=0) (a3:=none) (n3:=0) (c3:=0) (hc.there hf (o:=0) (n:=19) (Nat.le_refl _))
 replace hst:(Instr.storeAt 30 (.pointer (some ⟨w.heap.size,0,none⟩)) (.agg #[.int .i64 (-7),.int .i64 0,.int .i64 0,.string ⟨#[]⟩,.string ⟨#[]⟩,.int .i64 0,.int .u64 0,.string ⟨#[]⟩,.slice none 0 0,.int .i64 0,.bool false,.bool false,.int .i64 0,.int .u64 0,.string ⟨#[]⟩,.slice none 0 0,.int .i64 0,.string ⟨#[]⟩,.slice none 0 0])).run Tryz.prog W1= .ok () (W1.setCells w.heap.size 0 oddC):=hst
 have hcs:Cells (W1.setCells w.heap.size 0 oddC) w.heap.size 0 ((zeroS (-7)).cells nilV nilV nilV):=hc.setC (vs:=oddC) (Nat.le_refl _)
 have HB:Hid (Below w.heap.size w (W1.setCells w.heap.size 0 oddC)):=setCells_below (Nat.le_refl _) _ _ _ hb
 have HLV:=Lib.hid (loadVar_state hcs)
 clear hz hb hh hc hf hcs
 go_enter Tryz.func43,Tryz.ntmps43
 go_wp2
 exact bodyPost_ret_by (results_mid rfl rfl HLV.out) rfl ⟨rfl,HB.out⟩
def LsS (n:Nat):Prop:=∀ (B N:Nat) (s:ST) (il al lv:Value) (w:World),s.Fine→LAt B w N il s.info.list→LAt B w N al s.ann.list→SAt B N w n lv s.inner→Sms s.info.list→Sms s.ann.list→Ssm s.inner→B≤w.heap.size→
    Calls Tryz.prog 16 #[s.agg il al lv] w fun r w'=>∃ bi ba bl m1 m2,r= .returned (s.agg (lentSl bi s.info.list.length) (lentSl ba s.ann.list.length) (lentSS bl s.inner.length))∧
     LentAt w' N w.heap.size m1 (lentSl bi s.info.list.length) s.info.list∧LentAt w' N m1 m2 (lentSl ba s.ann.list.length) s.ann.list∧SLent3 w' N n m2 w'.heap.size (lentSS bl s.inner.length) s.inner∧Below w.heap.size w w'
theorem lentStates:∀ n,LsS n:=by
 intro n
 induction n with
 |zero=>intro B N s il al lv w _ _ _ h;exact h.elim
 |succ n ih=>
  intro B N s il al lv w hf hil hal hlv si sa ss hB
  have HS:=Lib.hid ih
  have HL:=Lib.hid hlv
  have HSM:=Lib.hid ss
  obtain ⟨p,c,rfl⟩:=hlv.slice
  have hlen:s.inner.length≤10000:=ss.len
  obtain ⟨W1,hW1⟩:∃ W1,(w.alloc (.cells #[.int .i64 s.kind,.int .i64 s.section_,.int .i64 s.offset,.string s.cond,.string s.text,.int .i64 s.info.kind,.int .u64 s.info.num,.string s.info.text,il,.int .i64 s.info.elem,.bool s.failed,.bool s.elsewhere,.int .i64 s.ann.kind,.int .u64 s.ann.num,.string s.ann.text,al,.int .i64 s.ann.elem,.string s.txn,.slice p s.inner.length c] 30)).alloc (.cells #[.int .i64 0,.int .i64 0,.int .i64 0,.string ⟨#[]⟩,.string ⟨#[]⟩,.int .i64 0,.int .u64 0,.string ⟨#[]⟩,.slice none 0 0,.int .i64 0,.bool false,.bool false,.int .i64 0,.int .u64 0,.string ⟨#[]⟩,.slice none 0 0,.int .i64 0,.string ⟨#[]⟩,.slice none 0 0] 30)=W1:=⟨_,rfl⟩
  have HK:Hid (∀ w2,Below (w.heap.size+2) W1 w2→Cells w2 w.heap.size 0 (s.cells il al (.slice p s.inner.length c))∧Cells w2 (w.heap.size+1) 0 ((zeroS 0).cells nilV nilV nilV)∧(∀ j,w2.frozen? ⟨w.heap.size,j,none⟩=false)∧(∀ j,w2.frozen? ⟨w.heap.size+1,j,none⟩=false)∧Below w.heap.size w w2∧w.heap.size+2≤w2.heap.size):=fun w2 h=>two_cells (cs:=s.cells il al (.slice p s.inner.length c)) (ds:=(zeroS 0).cells nilV nilV nilV) (T:=30) (by rw [←hW1] at h;exact h)
  obtain ⟨k1,_,_,_,kb1,ks1⟩:=HK.out W1 (Below.refl _ _)
  have hz1:W1.heap.size=w.heap.size+2:=by rw [←hW1,heap_alloc_size,heap_alloc_size]
  have hld1:(Instr.loadAt 25 (.pointer (some ⟨w.heap.size,3+2,none⟩))).run Tryz.prog W1= .ok (.agg #[.int .i64 s.info.kind,.int .u64 s.info.num,.string s.info.text,il,.int .i64 s.info.elem]) W1:=load_value (o:=5) (cells_infoV (s:=s) k1)
  have HC:=Lib.hid (lent_of (lents N) B s.info.kind s.info.num s.info.text s.info.elem s.info.list il W1 (hil.below (kb1.mono hB)) si (by omega))
  have HAL:Hid (∀ w',Below w.heap.size w w'→Calls Tryz.prog 15 #[.agg #[.int .i64 s.ann.kind,.int .u64 s.ann.num,.string s.ann.text,al,.int .i64 s.ann.elem]] w' fun r w''=>∃ v',r= .returned (.agg #[.int .i64 s.ann.kind,.int .u64 s.ann.num,.string s.ann.text,v',.int .i64 s.ann.elem])∧LentAt w'' N w'.heap.size w''.heap.size v' s.ann.list∧Below w'.heap.size w' w''):=fun w' h=>lent_of (lents N) B s.ann.kind s.ann.num s.ann.text s.ann.elem s.ann.list al w' (hal.below (h.mono hB)) sa (Nat.le_trans hB h.size)
  clear k1 kb1 ks1 hil hal hlv si sa ss ih hf
  go_enter Tryz.func16,Tryz.ntmps16
  go_wp2_with (fail)
  clear hW1 hld1
  refine HC.out.mono ?_
  rintro r w2 ⟨vi,rfl,hLi,hb2⟩
  obtain ⟨bi,hvi⟩:=hLi.form
  subst hvi
  obtain ⟨c1,c2,f1,f2,kb,ks⟩:=HK.out w2 (hb2.mono (by omega))
  have n1:=cells_has c1
  have hst1:(Instr.storeAt 25 (.pointer (some ⟨w.heap.size,3+2,none⟩)) (.agg #[.int .i64 s.info.kind,.int .u64 s.info.num,.string s.info.text,lentSl bi s.info.list.length,.int .i64 s.info.elem])).run Tryz.prog w2= .ok () (w2.setCells w.heap.size 5 (s.info.cells (lentSl bi s.info.list.length))):=store_value (t:=s.info) (a:=some ⟨bi,0,none⟩) (n:=s.info.list.length) (c:=s.info.list.length+3) (n1.there f1 (o:=5) (n:=5) (by rw [scells_len];omega))
  have x1:Cells (w2.setCells w.heap.size 5 (s.info.cells (lentSl bi s.info.list.length))) w.heap.size 0 (s.cells (lentSl bi s.info.list.length) al (.slice p s.inner.length c)):=
   patch_infoV c1
  have x2:=setCells_keep (b:=w.heap.size) (o:=5) (vs:=s.info.cells (lentSl bi s.info.list.length)) c2 (.inl (by omega))
  have xf1:∀ j,(w2.setCells w.heap.size 5 (s.info.cells (lentSl bi s.info.list.length))).frozen? ⟨w.heap.size,j,none⟩=false:=fun j=>(World.frozen?_setCells _ _ _ _ _).trans (f1 j)
  have xf2:∀ j,(w2.setCells w.heap.size 5 (s.info.cells (lentSl bi s.info.list.length))).frozen? ⟨w.heap.size+1,j,none⟩=false:=fun j=>(World.frozen?_setCells _ _ _ _ _).trans (f2 j)
  have xb:=setCells_below (B:=w.heap.size) (Nat.le_refl w.heap.size) (s.info.cells (lentSl bi s.info.list.length)) 5 w2 kb
  have xa:=setCells_apart (lo:=w.heap.size) (hi:=w.heap.size+2) (b:=w.heap.size) (Nat.le_refl _) (by omega) (s.info.cells (lentSl bi s.info.list.length)) 5 w2 (Apart.refl _ _ w2)
  have xz:=setCells_size w2 w.heap.size (s.info.cells (lentSl bi s.info.list.length)) 5 w2
  generalize w2.setCells w.heap.size 5 (s.info.cells (lentSl bi s.info.list.length))=X at*
  have hLi1:LentAt X N (w.heap.size+2) X.heap.size (lentSl bi s.info.list.length) s.info.list:=by
   rw [xz];exact (hLi.apart xa (Nat.le_refl _) (.inr (by omega))).lo (by omega)
  have hld2:(Instr.loadAt 25 (.pointer (some ⟨w.heap.size,12,none⟩))).run Tryz.prog X= .ok (.agg #[.int .i64 s.ann.kind,.int .u64 s.ann.num,.string s.ann.text,al,.int .i64 s.ann.elem]) X:=load_value (o:=12) (cells_ann (s:=s) x1)
  have HA2:=Lib.hid (HAL.out X xb)
  have HX:=Lib.hid (show Cells X w.heap.size 0 (s.cells (lentSl bi s.info.list.length) al (.slice p s.inner.length c))∧Cells X (w.heap.size+1) 0 ((zeroS 0).cells nilV nilV nilV)∧(∀ j,X.frozen? ⟨w.heap.size,j,none⟩=false)∧(∀ j,X.frozen? ⟨w.heap.size+1,j,none⟩=false)∧Below w.heap.size w X∧LentAt X N (w.heap.size+2) X.heap.size (lentSl bi s.info.list.length) s.info.list from ⟨x1,x2,xf1,xf2,xb,hLi1⟩)
  have hzX:Hid (w.heap.size+2≤X.heap.size):=by show _≤_;rw [xz];exact ks
  clear c1 c2 f1 f2 kb ks n1 x1 x2 xf1 xf2 xb xa xz hLi hLi1 hb2 HAL HC hz1 HK
  go_wp2_with (fail)
  clear hst1 hld2
  obtain ⟨m,hm⟩:∃ m,s.inner.length=m:=⟨_,rfl⟩
  have Hm:=Lib.hid hm
  rw [hm] at hlen HL HX ⊢
  clear hm
  refine HA2.out.mono ?_
  rintro r w3 ⟨v3,rfl,hLa,hb3⟩
  obtain ⟨ba,hv3⟩:=hLa.form
  subst hv3
  have hzX':=hzX.out
  obtain ⟨x1,x2,xf1,xf2,xb,xl⟩:=HX.out
  have c1:=x1.below hb3 (by omega)
  have c2:=x2.below hb3 (by omega)
  have f1:∀ j,w3.frozen? ⟨w.heap.size,j,none⟩=false:=fun j=>(hb3.frozen (p:=⟨w.heap.size,j,none⟩) (by show w.heap.size<_;omega)).trans (xf1 j)
  have f2:∀ j,w3.frozen? ⟨w.heap.size+1,j,none⟩=false:=fun j=>(hb3.frozen (p:=⟨w.heap.size+1,j,none⟩) (by show w.heap.size+1<_;omega)).trans (xf2 j)
  have n1:=cells_has c1
  have hst2:=store_value (t:=s.ann) (a:=some ⟨ba,0,none⟩) (n:=s.ann.list.length) (c:=s.ann.list.length+3) (n1.there f1 (o:=12) (n:=5) (by rw [scells_len];omega))
  have y1:=patch_ann (al':=lentSl ba s.ann.list.length) c1
  have y2:=setCells_keep (b:=w.heap.size) (o:=12) (vs:=s.ann.cells (lentSl ba s.ann.list.length)) c2 (.inl (by omega))
  have yf1:∀ j,(w3.setCells w.heap.size 12 (s.ann.cells (lentSl ba s.ann.list.length))).frozen? ⟨w.heap.size,j,none⟩=false:=fun j=>(World.frozen?_setCells _ _ _ _ _).trans (f1 j)
  have yf2:∀ j,(w3.setCells w.heap.size 12 (s.ann.cells (lentSl ba s.ann.list.length))).frozen? ⟨w.heap.size+1,j,none⟩=false:=fun j=>(World.frozen?_setCells _ _ _ _ _).trans (f2 j)
  have yb:=setCells_below (B:=w.heap.size) (Nat.le_refl w.heap.size) (s.ann.cells (lentSl ba s.ann.list.length)) 12 w3 (xb.trans (hb3.mono (by omega)))
  have ya:=setCells_apart (lo:=w.heap.size) (hi:=w.heap.size+1) (b:=w.heap.size) (Nat.le_refl _) (by omega) (s.ann.cells (lentSl ba s.ann.list.length)) 12 w3 (Apart.refl _ _ w3)
  have yz:=setCells_size w3 w.heap.size (s.ann.cells (lentSl ba s.ann.list.length)) 12 w3
  have hs3:=hb3.size
  have hLi2:LentAt (w3.setCells w.heap.size 12 (s.ann.cells (lentSl ba s.ann.list.length))) N (w.heap.size+2) X.heap.size (lentSl bi s.info.list.length) s.info.list:=((xl.below (Nat.le_refl _) hb3).apart ya hs3 (.inr (by omega)))
  have hLa2:LentAt (w3.setCells w.heap.size 12 (s.ann.cells (lentSl ba s.ann.list.length))) N X.heap.size w3.heap.size (lentSl ba s.ann.list.length) s.ann.list:=hLa.apart ya (Nat.le_refl _) (.inr (by omega))
  rw [←yz] at hLa2
  have hzY:Hid (w.heap.size+2≤(w3.setCells w.heap.size 12 (s.ann.cells (lentSl ba s.ann.list.length))).heap.size∧X.heap.size≤(w3.setCells w.heap.size 12 (s.ann.cells (lentSl ba s.ann.list.length))).heap.size):=by rw [yz];exact ⟨by omega,hs3⟩
  generalize w3.setCells w.heap.size 12 (s.ann.cells (lentSl ba s.ann.list.length))=Y at*
  have d18:=y1 18 _ rfl
  rw [Nat.zero_add] at d18
  have hld3:=load_slice d18
  have HY:=Lib.hid (show Cells Y w.heap.size 0 (s.cells (lentSl bi s.info.list.length) (lentSl ba s.ann.list.length) (.slice p m c))∧Cells Y (w.heap.size+1) 0 ((zeroS 0).cells nilV nilV nilV)∧(∀ j,Y.frozen? ⟨w.heap.size,j,none⟩=false)∧(∀ j,Y.frozen? ⟨w.heap.size+1,j,none⟩=false)∧Below w.heap.size w Y∧LentAt Y N (w.heap.size+2) X.heap.size (lentSl bi s.info.list.length) s.info.list∧LentAt Y N X.heap.size Y.heap.size (lentSl ba s.ann.list.length) s.ann.list from ⟨y1,y2,yf1,yf2,yb,hLi2,hLa2⟩)
  obtain ⟨C,hC,hmk⟩:=make_states Y m hlen
  have hw2:IntKind.i64.wrap ((m:Int)+3)=m+3:=by rw [IntKind.wrap_i64];omega
  have HR0:Hid (SRel3 Y.heap.size Y (Y.alloc (.cells C 30)) N n 0 s.inner):=SRel3.start (by rw [Hm.out];exact hC)
  clear hC x1 x2 xf1 xf2 xb xl c1 c2 f1 f2 n1 y1 y2 yf1 yf2 yb ya yz hLi2 hLa2 hLa hb3 hs3 hzX' d18 HX HA2
  go_wp2
  clear hmk hst2 hld3
  go_loopw [5] (fun i wr=>∃ (j:Nat),i= .int .i64 j∧j≤m+3∧Hid (SRel3 Y.heap.size Y wr N n j s.inner)) (fun i _=>m+3-(intOf i).toNat)
  case atStart=>exact ⟨0,rfl,Nat.zero_le _,HR0⟩
  case round=>
   obtain ⟨j,rfl,hj,HR⟩:=hrel
   by_cases hlt:j<m+3
   ·have hlt':(j:Int)<(m:Int)+3:=by omega
    have HOD:=Lib.hid (odd_any wr)
    go_wp2_with (fail)
    refine HOD.out.mono ?_
    rintro r wo ⟨rfl,hbo⟩
    have HRo:=Lib.hid (HR.out.grow hbo)
    clear hbo HOD HR
    have HR:=HRo
    clear HRo
    have hstm:(Instr.storeAt 30 (.pointer (some ⟨Y.heap.size,j*19,none⟩)) (.agg #[.int .i64 (-7),.int .i64 0,.int .i64 0,.string ⟨#[]⟩,.string ⟨#[]⟩,.int .i64 0,.int .u64 0,.string ⟨#[]⟩,.slice none 0 0,.int .i64 0,.bool false,.bool false,.int .i64 0,.int .u64 0,.string ⟨#[]⟩,.slice none 0 0,.int .i64 0,.string ⟨#[]⟩,.slice none 0 0])).run Tryz.prog wo= .ok () (wo.setCells Y.heap.size (j*19) ((zeroS (-7)).cells nilV nilV nilV)):=
     store_state (s:=zeroS (-7)) (HR.out.has.there HR.out.froz (o:=j*19) (n:=19) (by rw [Hm.out];omega))
    by_cases hjm:j<m
    ·rcases HL.out with ⟨h0,_⟩|⟨b0,off,c',hp,hbB,_,hel⟩
     ·exfalso;have:=Hm.out;rw [h0] at this;simp at this;omega
     rw [Hm.out] at hp
     cases hp
     obtain ⟨t,ht⟩:∃ t,s.inner[j]? =some t:=⟨_,List.getElem?_eq_getElem (by rw [Hm.out];exact hjm)⟩
     obtain ⟨tf,il',al',lv',hc,hi',ha',hl'⟩:=hel j t ht
     obtain ⟨sm1,sm2,sm3⟩:=HSM.out.child ht
     have hzY':=hzY.out
     have hbY:=HY.out.2.2.2.2.1
     have hbw:Below w.heap.size w wo:=hbY.trans (HR.out.keep.mono (by omega))
     have hbZ:=setCells_below (B:=w.heap.size) (b:=Y.heap.size) (by omega) ((zeroS (-7)).cells nilV nilV nilV) (j*19) wo hbw
     have hcZ:=setCells_keep (b:=Y.heap.size) (o:=j*19) (vs:=(zeroS (-7)).cells nilV nilV nilV) (hc.below (hbw.mono hB) hbB) (.inl (by omega))
     have d18:=HY.out.1 18 _ rfl
     rw [Nat.zero_add] at d18
     have d18r:wo.cell? ⟨w.heap.size,18,none⟩=some (.slice (some ⟨b0,off,none⟩) m c):=(HR.out.keep.cell (p:=⟨w.heap.size,18,none⟩) (by show w.heap.size<_;omega)).trans d18
     have d18z:=(World.cell?_setCells_out Y.heap.size ((zeroS (-7)).cells nilV nilV nilV) (j*19) wo ⟨w.heap.size,18,none⟩ (fun h _=>absurd h (by show w.heap.size≠_;omega))).trans d18r
     have hasZ:=HR.out.has.setCells (o:=j*19) (vs:=(zeroS (-7)).cells nilV nilV nilV) (by rw [Hm.out,scells_len];omega)
     have frZ:∀ o,(wo.setCells Y.heap.size (j*19) ((zeroS (-7)).cells nilV nilV nilV)).frozen? ⟨Y.heap.size,o,none⟩=false:=fun o=>(World.frozen?_setCells _ _ _ _ _).trans (HR.out.froz o)
     have szZ:=setCells_size wo Y.heap.size ((zeroS (-7)).cells nilV nilV nilV) (j*19) wo
     have HP:Hid (∀ (il al lv:Value) (m1 m2:Nat) (w2:World),Below (wo.setCells Y.heap.size (j*19) ((zeroS (-7)).cells nilV nilV nilV)).heap.size (wo.setCells Y.heap.size (j*19) ((zeroS (-7)).cells nilV nilV nilV)) w2→
      LentAt w2 N (wo.setCells Y.heap.size (j*19) ((zeroS (-7)).cells nilV nilV nilV)).heap.size m1 il t.info.list→LentAt w2 N m1 m2 al t.ann.list→SLent3 w2 N n m2 w2.heap.size lv t.inner→
      SRel3 Y.heap.size Y (w2.setCells Y.heap.size (j*19) (t.cells il al lv)) N n (j+1) s.inner):=fun il al lv m1 m2 w2 h1 h2 h3 h4=>(HR.out.over (by rw [Hm.out];omega) (scells_len _ _ _ _) (by rw [Hm.out];exact hjm)).part ht tf h1 h2 h3 h4
     have hltZ:=HR.out.lt
     generalize wo.setCells Y.heap.size (j*19) ((zeroS (-7)).cells nilV nilV nilV)=Z at*
     rw [←szZ] at hltZ
     have hld4:=load_slice d18z
     have hld5:=load_state hcZ
     have HC:=Lib.hid (HS.out B N t il' al' lv' Z tf (hi'.below (hbZ.mono hB)) (ha'.below (hbZ.mono hB)) (hl'.below (hbZ.mono hB)) sm1 sm2 sm3 (Nat.le_trans hB hbZ.size))
     clear hel hc hi' ha' hl' ht tf sm1 sm2 sm3 hbY hbw hbZ hcZ d18 d18r d18z szZ
     have hjm':(j:Int)<(m:Int):=by omega
     go_wp2_with (fail)
     refine HC.out.mono ?_
     rintro r w4 ⟨bi',ba',bl',m1,m2,rfl,e4,e5,e6,hb4⟩
     have hst4:=store_state (s:=t) (a1:=some ⟨bi',0,none⟩) (n1:=t.info.list.length) (c1:=t.info.list.length+3) (a2:=some ⟨ba',0,none⟩) (n2:=t.ann.list.length) (c2:=t.ann.list.length+3) (a3:=some ⟨bl',0,none⟩) (n3:=t.inner.length) (c3:=t.inner.length+3) ((hasZ.below hb4 hltZ).there (fun o=>(hb4.frozen (p:=⟨_,o,none⟩) hltZ).trans (frZ o)) (o:=j*19) (n:=19) (by rw [Hm.out];omega))
     have HR2:=Lib.hid (HP.out _ _ _ _ _ w4 hb4 e4 e5 e6)
     clear e4 e5 e6 hb4 hld4 hld5 hstm hasZ frZ HP hltZ hzY'
     go_wp2
     go_roundw
     case rel=>exact ⟨j+1,by go_num,by omega,HR2.out⟩
     case measure=>simp [intOf];omega
    ·have hjm':¬((j:Int)<(m:Int)):=by omega
     go_wp2
     go_roundw
     case rel=>exact ⟨j+1,by go_num,by omega,HR.out.mark (by rw [Hm.out];omega) (by rw [Hm.out];exact hlt) (scells_len _ _ _ _) rfl⟩
     case measure=>simp [intOf];omega
   ·obtain rfl:j=m+3:=by omega
    have hzY':=hzY.out
    obtain ⟨y1,y2,yf1,yf2,yb,hLi,hLa⟩:=HY.out
    have hk:=HR.out.keep
    have hks:=hk.size
    have c1:=y1.below hk (by omega)
    have c2:=y2.below hk (by omega)
    have f1:∀ j,wr.frozen? ⟨w.heap.size,j,none⟩=false:=fun j=>(hk.frozen (p:=⟨w.heap.size,j,none⟩) (by show w.heap.size<_;omega)).trans (yf1 j)
    have f2:∀ j,wr.frozen? ⟨w.heap.size+1,j,none⟩=false:=fun j=>(hk.frozen (p:=⟨w.heap.size+1,j,none⟩) (by show w.heap.size+1<_;omega)).trans (yf2 j)
    have d18:=c1 18 _ rfl
    rw [Nat.zero_add] at d18
    have hst5:=store_slice (a:=some ⟨Y.heap.size,0,none⟩) (n:=m) (c:=m+3) d18 (f1 18)
    have x1:=patch_inner (lv':=lentSS Y.heap.size m) c1
    have x2:=setCells_keep (b:=w.heap.size) (o:=18) (vs:=[lentSS Y.heap.size m]) c2 (.inl (by omega))
    have xf2:∀ j,(wr.setCells w.heap.size 18 [lentSS Y.heap.size m]).frozen? ⟨w.heap.size+1,j,none⟩=false:=fun j=>(World.frozen?_setCells _ _ _ _ _).trans (f2 j)
    have xb:=setCells_below (B:=w.heap.size) (Nat.le_refl w.heap.size) [lentSS Y.heap.size m] 18 wr (yb.trans (hk.mono (by omega)))
    have xa:=setCells_apart (lo:=w.heap.size) (hi:=w.heap.size+2) (b:=w.heap.size) (Nat.le_refl _) (by omega) [lentSS Y.heap.size m] 18 wr (Apart.refl _ _ wr)
    have xz:=setCells_size wr w.heap.size [lentSS Y.heap.size m] 18 wr
    have hD:SLent3 wr N (n+1) Y.heap.size wr.heap.size (lentSS Y.heap.size m) s.inner:=by
     have h:=HR.out
     rw [←Hm.out] at h ⊢
     exact h.done (by rw [Hm.out];exact hlen)
    have hLi3:=(hLi.apart (x:=Y.heap.size) (y:=Y.heap.size) (Apart.of_below hk (Nat.le_refl _)) (by omega) (.inl (by omega)))
    have hLa3:=hLa.below (Nat.le_refl _) hk
    generalize wr.setCells w.heap.size 18 [lentSS Y.heap.size m]=V at*
    have hld6:=load_state x1
    have n2:=cells_has x2
    have hst6:=store_state (s:=s) (a1:=some ⟨bi,0,none⟩) (n1:=s.info.list.length) (c1:=s.info.list.length+3) (a2:=some ⟨ba,0,none⟩) (n2:=s.ann.list.length) (c2:=s.ann.list.length+3) (a3:=some ⟨Y.heap.size,0,none⟩) (n3:=m) (c3:=m+3) (n2.there xf2 (o:=0) (n:=19) (Nat.le_refl _))
    have z1:Cells (V.setCells (w.heap.size+1) 0 (s.cells (lentSl bi s.info.list.length) (lentSl ba s.ann.list.length) (lentSS Y.heap.size m))) (w.heap.size+1) 0 (s.cells (lentSl bi s.info.list.length) (lentSl ba s.ann.list.length) (lentSS Y.heap.size m)):=n2.setC (Nat.le_refl _)
    have zb:=setCells_below (B:=w.heap.size) (b:=w.heap.size+1) (Nat.le_succ _) (s.cells (lentSl bi s.info.list.length) (lentSl ba s.ann.list.length) (lentSS Y.heap.size m)) 0 V xb
    have za:=setCells_apart (lo:=w.heap.size) (hi:=w.heap.size+2) (b:=w.heap.size+1) (by omega) (by omega) (s.cells (lentSl bi s.info.list.length) (lentSl ba s.ann.list.length) (lentSS Y.heap.size m)) 0 V xa
    have zz:=setCells_size V (w.heap.size+1) (s.cells (lentSl bi s.info.list.length) (lentSl ba s.ann.list.length) (lentSS Y.heap.size m)) 0 V
    generalize V.setCells (w.heap.size+1) 0 (s.cells (lentSl bi s.info.list.length) (lentSl ba s.ann.list.length) (lentSS Y.heap.size m))=U at*
    have HU:=Lib.hid (loadVar_state z1)
    have HR9:Hid (LentAt U N w.heap.size X.heap.size (lentSl bi s.info.list.length) s.info.list∧LentAt U N X.heap.size Y.heap.size (lentSl ba s.ann.list.length) s.ann.list∧SLent3 U N (n+1) Y.heap.size U.heap.size (lentSS Y.heap.size m) s.inner∧Below w.heap.size w U):=by
     refine ⟨(hLi3.apart za (by omega) (.inr (Nat.le_refl _))).lo (by omega),hLa3.apart za (by omega) (.inr (by have:=hLi3.le;omega)),?_,zb⟩
     rw [zz,xz]
     exact hD.apart za (Nat.le_refl _) (.inr (by omega))
    clear y1 y2 yf1 yf2 yb hLi hLa hk hks c1 c2 f1 f2 d18 x1 x2 xf2 xb xa xz hD hLi3 hLa3 n2 z1 zb za zz hzY'
    go_wp2
    exact bodyPost_ret_by (results_mid rfl rfl HU.out) rfl (by rw [Hm.out];exact ⟨bi,ba,Y.heap.size,X.heap.size,Y.heap.size,rfl,HR9.out.1,HR9.out.2.1,HR9.out.2.2.1,HR9.out.2.2.2⟩)
end Go.Proofs.YtfjlnfogbfmpiaaGreatDoor.Va
namespace Go.Proofs.YtfjlnfogbfmpiaaGreatDoor.Va
open Go Go.RowKit Nu
attribute [-go_sem] Go.Instr.loadAt
def eqF (x t:ByteArray) (i:VT) (x' t':ByteArray) (i':VT):Bool:=(x.toList==x'.toList)&&(t.toList==t'.toList)&&eqT i i'
structure FBox (w W1:World) (x t:ByteArray) (i:VT) (il:Value) (x' t':ByteArray) (i':VT) (il':Value):Prop where
 size:W1.heap.size=w.heap.size+2
 below:Below w.heap.size w W1
 c1:Cells W1 w.heap.size 0 (fcells x t i il)
 c2:Cells W1 (w.heap.size+1) 0 (fcells x' t' i' il')
theorem fbox {w W1:World} {x t:ByteArray} {i:VT} {il:Value} {x' t':ByteArray} {i':VT} {il':Value} (hW1:(w.alloc (.cells #[.string x,.string t,.int .i64 i.kind,.int .u64 i.num,.string i.text,il,.int .i64 i.elem] 27)).alloc (.cells #[.string x',.string t',.int .i64 i'.kind,.int .u64 i'.num,.string i'.text,il',.int .i64 i'.elem] 27)=W1):FBox w W1 x t i il x' t' i' il':=by
 obtain ⟨k1,k2,_,_,kb1,_⟩:=two_cells (w:=w) (w2:=W1) (cs:=fcells x t i il) (ds:=fcells x' t' i' il') (T:=27) (by rw [←hW1];exact Below.refl _ _)
 exact ⟨by rw [←hW1,heap_alloc_size,heap_alloc_size],kb1,k1,k2⟩
theorem load_fv {w:World} {b:Nat} {x t:ByteArray} {i:VT} {il:Value} (h:Cells w b 0 (fcells x t i il)):(Instr.loadAt 25 (.pointer (some ⟨b,2,none⟩))).run Tryz.prog w= .ok (.agg #[.int .i64 i.kind,.int .u64 i.num,.string i.text,il,.int .i64 i.elem]) w:=load_value (o:=2) (cells_right (cs:=[.string x,.string t]) h)
theorem psameF {N B:Nat} (x t:ByteArray) (i:VT) (il:Value) (x' t':ByteArray) (i':VT) (il':Value) (w:World) (fi:i.Fine) (fi':i'.Fine) (hl:LAt B w N il i.list) (hl':LAt B w N il' i'.list) (hB:B≤w.heap.size):
 Calls Tryz.prog 45 #[.agg #[.string x,.string t,.int .i64 i.kind,.int .u64 i.num,.string i.text,il,.int .i64 i.elem],.agg #[.string x',.string t',.int .i64 i'.kind,.int .u64 i'.num,.string i'.text,il',.int .i64 i'.elem]] w fun r w'=>r= .returned (.bool (eqF x t i x' t' i'))∧Below w.heap.size w w':=by
 obtain ⟨W1,hW1⟩:∃ W1,(w.alloc (.cells #[.string x,.string t,.int .i64 i.kind,.int .u64 i.num,.string i.text,il,.int .i64 i.elem] 27)).alloc (.cells #[.string x',.string t',.int .i64 i'.kind,.int .u64 i'.num,.string i'.text,il',.int .i64 i'.elem] 27)=W1:=⟨_,rfl⟩
 have hb:=fbox hW1
 have l1:=load_str (cell_of hb.c1 0 _ rfl)
 have l2:=load_str (cell_of hb.c1 1 _ rfl)
 have l3:=load_str (cell_of hb.c2 0 _ rfl)
 have l4:=load_str (cell_of hb.c2 1 _ rfl)
 have l5:=load_fv hb.c1
 have l6:=load_fv hb.c2
 have HB1:=Lib.hid hb.below
 have hz1:=hb.size
 have HC:=Lib.hid (pequal_any (N:=N) (B:=B) (w:=W1) ⟨fi,il,rfl,hl.below (hb.below.mono hB)⟩ ⟨fi',il',rfl,hl'.below (hb.below.mono hB)⟩ (by omega))
 clear hl hl' fi fi' hb
 have HE:Hid (eqF x t i x' t' i'=((x.toList==x'.toList)&&(t.toList==t'.toList)&&eqT i i')):=rfl
 obtain ⟨R,hR⟩:∃ R,eqF x t i x' t' i'=R:=⟨_,rfl⟩
 rw [hR] at HE ⊢
 clear hR
 by_cases hh:x=x'∧t=t'
 ·obtain ⟨rfl,rfl⟩:=hh
  have HE2:Hid (eqT i i'=R):=by show _=R;rw [HE.out];simp
  clear HE
  go_enter Tryz.func45,Tryz.ntmps45
  go_wp2_with (go_at_call 22;refine HC.out.mono ?_;rintro r w2 ⟨hr,hg2⟩;rw [HE2.out] at hr;subst hr)
  go_ret
  exact ⟨rfl,HB1.out.trans (hg2.below.mono (by omega))⟩
 ·have HN:=Lib.hid hh
  have HE2:Hid (R=false):=by
   show R=false
   rw [HE.out]
   by_cases h1:x=x'
   ·by_cases h2:t=t'
    ·exact absurd ⟨h1,h2⟩ hh
    ·have:¬t.toList=t'.toList:=fun h=>h2 (toList_inj h)
     simp [this]
   ·have:¬x.toList=x'.toList:=fun h=>h1 (toList_inj h)
    simp [this]
  clear hh HE
  go_enter Tryz.func45,Tryz.ntmps45
  go_wp2_with (go_at_call 22;exfalso;exact HN.out ⟨toList_inj (by assumption),toList_inj (by assumption)⟩)
  all_goals
   go_ret
   exact ⟨ret_bool HE2.out.symm,HB1.out⟩
theorem rsameF {N B:Nat} (x t:ByteArray) (i:VT) (il:Value) (x' t':ByteArray) (i':VT) (il':Value) (w:World) (fi:i.Fine) (fi':i'.Fine) (hl:LAt B w N il i.list) (hl':LAt B w N il' i'.list) (hB:B≤w.heap.size):
 Calls Tryz.prog 32 #[.agg #[.string x,.string t,.int .i64 i.kind,.int .u64 i.num,.string i.text,il,.int .i64 i.elem],.agg #[.string x',.string t',.int .i64 i'.kind,.int .u64 i'.num,.string i'.text,il',.int .i64 i'.elem]] w fun r w'=>r= .returned (.bool (eqF x t i x' t' i'))∧Below w.heap.size w w':=by
 obtain ⟨W1,hW1⟩:∃ W1,(w.alloc (.cells #[.string x,.string t,.int .i64 i.kind,.int .u64 i.num,.string i.text,il,.int .i64 i.elem] 27)).alloc (.cells #[.string x',.string t',.int .i64 i'.kind,.int .u64 i'.num,.string i'.text,il',.int .i64 i'.elem] 27)=W1:=⟨_,rfl⟩
 have hb:=fbox hW1
 have l5:=load_fv hb.c1
 have l6:=load_fv hb.c2
 have HB1:=Lib.hid hb.below
 have hz1:=hb.size
 have HC:=Lib.hid (equal_any (N:=N) (B:=B) (w:=W1) ⟨fi,il,rfl,hl.below (hb.below.mono hB)⟩ ⟨fi',il',rfl,hl'.below (hb.below.mono hB)⟩ (by omega))
 have HK:Hid (∀ w2,Below W1.heap.size W1 w2→Cells w2 w.heap.size 0 (fcells x t i il)∧Cells w2 (w.heap.size+1) 0 (fcells x' t' i' il')):=fun w2 h=>⟨hb.c1.below h (by omega),hb.c2.below h (by omega)⟩
 clear hl hl' fi fi' hb
 have HE:Hid (eqF x t i x' t' i'=((x.toList==x'.toList)&&(t.toList==t'.toList)&&eqT i i')):=rfl
 obtain ⟨R,hR⟩:∃ R,eqF x t i x' t' i'=R:=⟨_,rfl⟩
 rw [hR] at HE ⊢
 clear hR
 obtain ⟨Y,hY⟩:∃ Y,eqT i i'=Y:=⟨_,rfl⟩
 rw [hY] at HE HC
 clear hY
 go_enter Tryz.func32,Tryz.ntmps32
 go_wp2_with (fail)
 clear hW1 l5 l6
 refine HC.out.mono ?_
 rintro r w2 ⟨rfl,hb2⟩
 obtain ⟨c1,c2⟩:=HK.out w2 hb2
 have l1:=load_str (cell_of c1 0 _ rfl)
 have l2:=load_str (cell_of c1 1 _ rfl)
 have l3:=load_str (cell_of c2 0 _ rfl)
 have l4:=load_str (cell_of c2 1 _ rfl)
 have HB2:=Lib.hid (HB1.out.trans (hb2.mono (by omega)))
 clear c1 c2 hb2
 cases Y with
 |false=>
  go_wp2
  go_ret
  exact ⟨ret_bool (by rw [HE.out];simp),HB2.out⟩
 |true=>
  go_wp2
  all_goals
   go_ret
   refine ⟨ret_bool ?_,HB2.out⟩
   rw [HE.out,Bool.eq_iff_iff]
   simp_all
end Go.Proofs.YtfjlnfogbfmpiaaGreatDoor.Va
namespace Go.Proofs.YtfjlnfogbfmpiaaGreatDoor.Va
open Go Go.RowKit Nu
attribute [-go_sem] Go.Instr.loadAt Go.Instr.storeAt
abbrev sameFn:Value:= .func (.func 20) #[] #[]
def PsS (n:Nat):Prop:=∀ (B N:Nat) (ss ss':List ST) (lv lv':Value) (w:World),SAt B N w n lv ss→SAt B N w n lv' ss'→B≤w.heap.size→
    Calls Tryz.prog 46 #[lv,lv',sameFn] w fun e w'=>e= .returned (.bool (eqSs ss ss'))∧Below w.heap.size w w'
structure SBox2 (w W1:World) (s:ST) (il al lv:Value) (t:ST) (il' al' lv':Value):Prop where
 size:W1.heap.size=w.heap.size+2
 below:Below w.heap.size w W1
 c1:Cells W1 w.heap.size 0 (s.cells il al lv)
 c2:Cells W1 (w.heap.size+1) 0 (t.cells il' al' lv')
theorem sbox2 {w W1:World} {s:ST} {il al lv:Value} {t:ST} {il' al' lv':Value} (hW1:(w.alloc (.cells #[.int .i64 s.kind,.int .i64 s.section_,.int .i64 s.offset,.string s.cond,.string s.text,.int .i64 s.info.kind,.int .u64 s.info.num,.string s.info.text,il,.int .i64 s.info.elem,.bool s.failed,.bool s.elsewhere,.int .i64 s.ann.kind,.int .u64 s.ann.num,.string s.ann.text,al,.int .i64 s.ann.elem,.string s.txn,lv] 30)).alloc (.cells #[.int .i64 t.kind,.int .i64 t.section_,.int .i64 t.offset,.string t.cond,.string t.text,.int .i64 t.info.kind,.int .u64 t.info.num,.string t.info.text,il',.int .i64 t.info.elem,.bool t.failed,.bool t.elsewhere,.int .i64 t.ann.kind,.int .u64 t.ann.num,.string t.ann.text,al',.int .i64 t.ann.elem,.string t.txn,lv'] 30)=W1):SBox2 w W1 s il al lv t il' al' lv':=by
 obtain ⟨k1,k2,_,_,kb1,_⟩:=two_cells (w:=w) (w2:=W1) (cs:=s.cells il al lv) (ds:=t.cells il' al' lv') (T:=30) (by rw [←hW1];exact Below.refl _ _)
 exact ⟨by rw [←hW1,heap_alloc_size,heap_alloc_size],kb1,k1,k2⟩
theorem load_sann {w:World} {b:Nat} {s:ST} {il al lv:Value} (h:Cells w b 0 (s.cells il al lv)):(Instr.loadAt 25 (.pointer (some ⟨b,12,none⟩))).run Tryz.prog w= .ok (.agg #[.int .i64 s.ann.kind,.int .u64 s.ann.num,.string s.ann.text,al,.int .i64 s.ann.elem]) w:=load_value (o:=12) (cells_ann (s:=s) h)
theorem eqS_parts (s t:ST):eqS s t=((s.kind==t.kind)&&(s.section_==t.section_)&&(s.offset==t.offset)&&eqF s.cond s.text s.info t.cond t.text t.info&&(s.failed==t.failed)&&(s.elsewhere==t.elsewhere)&&eqT s.ann t.ann&&(s.txn.toList==t.txn.toList)&&eqSs s.inner t.inner):=eqS_mk s t
theorem psame_of {n:Nat} (hS:PsS n) (B N:Nat) (s:ST) (il al lv:Value) (t:ST) (il' al' lv':Value) (w:World) (hf:s.Fine) (hf':t.Fine) (hil:LAt B w N il s.info.list) (hal:LAt B w N al s.ann.list) (hlv:SAt B N w n lv s.inner) (hil':LAt B w N il' t.info.list) (hal':LAt B w N al' t.ann.list) (hlv':SAt B N w n lv' t.inner) (hB:B≤w.heap.size):
 Calls Tryz.prog 20 #[s.agg il al lv,t.agg il' al' lv'] w fun r w'=>r= .returned (.bool (eqS s t))∧Below w.heap.size w w':=by
 obtain ⟨W1,hW1⟩:∃ W1,(w.alloc (.cells #[.int .i64 s.kind,.int .i64 s.section_,.int .i64 s.offset,.string s.cond,.string s.text,.int .i64 s.info.kind,.int .u64 s.info.num,.string s.info.text,il,.int .i64 s.info.elem,.bool s.failed,.bool s.elsewhere,.int .i64 s.ann.kind,.int .u64 s.ann.num,.string s.ann.text,al,.int .i64 s.ann.elem,.string s.txn,lv] 30)).alloc (.cells #[.int .i64 t.kind,.int .i64 t.section_,.int .i64 t.offset,.string t.cond,.string t.text,.int .i64 t.info.kind,.int .u64 t.info.num,.string t.info.text,il',.int .i64 t.info.elem,.bool t.failed,.bool t.elsewhere,.int .i64 t.ann.kind,.int .u64 t.ann.num,.string t.ann.text,al',.int .i64 t.ann.elem,.string t.txn,lv'] 30)=W1:=⟨_,rfl⟩
 have hb:=sbox2 hW1
 have hz1:=hb.size
 have hbB:Below B w W1:=hb.below.mono hB
 have HB1:=Lib.hid hb.below
 have HK:Hid (∀ w2,Below W1.heap.size W1 w2→Cells w2 w.heap.size 0 (s.cells il al lv)∧Cells w2 (w.heap.size+1) 0 (t.cells il' al' lv')∧Below w.heap.size w w2):=fun w2 h=>⟨hb.c1.below h (by omega),hb.c2.below h (by omega),hb.below.trans (h.mono (by omega))⟩
 have HF:=Lib.hid (psameF s.cond s.text s.info il t.cond t.text t.info il' W1 hf.i hf'.i (hil.below hbB) (hil'.below hbB) (by omega))
 have HA:Hid (∀ w2,Below W1.heap.size W1 w2→Calls Tryz.prog 22 #[.agg #[.int .i64 s.ann.kind,.int .u64 s.ann.num,.string s.ann.text,al,.int .i64 s.ann.elem],.agg #[.int .i64 t.ann.kind,.int .u64 t.ann.num,.string t.ann.text,al',.int .i64 t.ann.elem]] w2 fun r w'=>r= .returned (.bool (eqT s.ann t.ann))∧Below w2.heap.size w2 w'):=fun w2 h=>(pequal_any (N:=N) (B:=B) (w:=w2) ⟨hf.a,al,rfl,(hal.below hbB).below (h.mono (by omega))⟩ ⟨hf'.a,al',rfl,(hal'.below hbB).below (h.mono (by omega))⟩ (by have:=h.size;omega)).mono fun r w' ⟨x,y⟩=>⟨x,y.below⟩
 have HI:Hid (∀ w2,Below W1.heap.size W1 w2→Calls Tryz.prog 46 #[lv,lv',sameFn] w2 fun e w'=>e= .returned (.bool (eqSs s.inner t.inner))∧Below w2.heap.size w2 w'):=fun w2 h=>hS B N s.inner t.inner lv lv' w2 ((hlv.below hbB).below (h.mono (by omega))) ((hlv'.below hbB).below (h.mono (by omega))) (by have:=h.size;omega)
 have l1:=load_int (cell_of hb.c1 0 _ rfl)
 have l2:=load_int (cell_of hb.c1 1 _ rfl)
 have l3:=load_int (cell_of hb.c1 2 _ rfl)
 have l4:=load_fault (o:=3) (cells_fault (s:=s) hb.c1)
 have l1':=load_int (cell_of hb.c2 0 _ rfl)
 have l2':=load_int (cell_of hb.c2 1 _ rfl)
 have l3':=load_int (cell_of hb.c2 2 _ rfl)
 have l4':=load_fault (o:=3) (cells_fault (s:=t) hb.c2)
 clear hb hbB hf hf' hil hal hlv hil' hal' hlv' hS
 have HE:=Lib.hid (eqS_parts s t)
 obtain ⟨R,hR⟩:∃ R,eqS s t=R:=⟨_,rfl⟩
 rw [hR] at HE ⊢
 clear hR
 obtain ⟨X,hX⟩:∃ X,eqF s.cond s.text s.info t.cond t.text t.info=X:=⟨_,rfl⟩
 obtain ⟨Y,hY⟩:∃ X,eqT s.ann t.ann=X:=⟨_,rfl⟩
 obtain ⟨Z,hZ⟩:∃ X,eqSs s.inner t.inner=X:=⟨_,rfl⟩
 rw [hX,hY,hZ] at HE
 rw [hX] at HF
 rw [hY] at HA
 rw [hZ] at HI
 clear hX hY hZ
 by_cases h1:s.kind=t.kind∧s.section_=t.section_∧s.offset=t.offset
 ·obtain ⟨h11,h12,h13⟩:=h1
  have HE1:Hid (R=(X&&(s.failed==t.failed)&&(s.elsewhere==t.elsewhere)&&Y&&(s.txn.toList==t.txn.toList)&&Z)):=by show R=_;rw [HE.out,h11,h12,h13];simp
  have e11:(s.kind==t.kind)=true:=by simp [h11]
  have e12:(s.section_==t.section_)=true:=by simp [h12]
  have e13:(s.offset==t.offset)=true:=by simp [h13]
  clear HE h11 h12 h13
  go_enter Tryz.func20,Tryz.ntmps20
  go_wp2_with (fail)
  clear hW1 l1 l2 l3 l4 l1' l2' l3' l4' e11 e12 e13
  refine HF.out.mono ?_
  rintro r w2 ⟨rfl,hb2⟩
  have B2:=Lib.hid hb2
  obtain ⟨c1,c2,hbw⟩:=HK.out w2 hb2
  have BW:=Lib.hid hbw
  clear hb2 hbw
  cases X with
  |false=>
   go_wp2
   go_ret
   exact ⟨ret_bool (by rw [HE1.out];simp),BW.out⟩
  |true=>
   have l1:=load_bool (cell_of c1 10 _ rfl)
   have l2:=load_bool (cell_of c1 11 _ rfl)
   have l3:=load_sann c1
   have l1':=load_bool (cell_of c2 10 _ rfl)
   have l2':=load_bool (cell_of c2 11 _ rfl)
   have l3':=load_sann c2
   clear c1 c2
   by_cases h2:s.failed=t.failed∧s.elsewhere=t.elsewhere
   ·obtain ⟨h21,h22⟩:=h2
    have HE2:Hid (R=(Y&&(s.txn.toList==t.txn.toList)&&Z)):=by show R=_;rw [HE1.out,h21,h22];simp
    have e21:(s.failed==t.failed)=true:=by simp [h21]
    have e22:(s.elsewhere==t.elsewhere)=true:=by simp [h22]
    clear HE1 h21 h22
    go_wp2_with (fail)
    clear l1 l2 l3 l1' l2' l3' e21 e22
    refine (HA.out w2 B2.out).mono ?_
    rintro r w3 ⟨rfl,hb3⟩
    have B3:=Lib.hid (B2.out.trans (hb3.mono B2.out.size))
    obtain ⟨c1,c2,hbw⟩:=HK.out w3 B3.out
    have BW3:=Lib.hid hbw
    clear hb3 hbw
    cases Y with
    |false=>
     go_wp2
     go_ret
     exact ⟨ret_bool (by rw [HE2.out];simp),BW3.out⟩
    |true=>
     have l1:=load_str (cell_of c1 17 _ rfl)
     have l2:=load_slice (cell_of c1 18 _ rfl)
     have l1':=load_str (cell_of c2 17 _ rfl)
     have l2':=load_slice (cell_of c2 18 _ rfl)
     clear c1 c2
     by_cases h3:s.txn=t.txn
     ·have HE3:Hid (R=Z):=by show R=_;rw [HE2.out,h3];simp
      have e3:(s.txn.toList==t.txn.toList)=true:=by simp [h3]
      clear HE2 h3
      go_wp2_with (fail)
      clear l1 l2 l1' l2' e3
      refine (HI.out w3 B3.out).mono ?_
      rintro r w4 ⟨rfl,hb4⟩
      have BW4:=Lib.hid (BW3.out.trans (hb4.mono BW3.out.size))
      clear hb4
      go_wp2
      go_ret
      exact ⟨ret_bool HE3.out.symm,BW4.out⟩
     ·have h3':¬s.txn.toList=t.txn.toList:=fun h=>h3 (toList_inj h)
      have HE3:Hid (R=false):=by show R=_;rw [HE2.out];simp [h3']
      clear HE2
      go_wp2_with (go_at_call 46;exfalso;exact h3' (by assumption))
      go_ret
      exact ⟨ret_bool HE3.out.symm,BW3.out⟩
   ·have HE2:Hid (R=false):=by
     show R=false
     rw [HE1.out]
     by_cases h21:s.failed=t.failed
     ·by_cases h22:s.elsewhere=t.elsewhere
      ·exact absurd ⟨h21,h22⟩ h2
      ·simp [h22]
     ·simp [h21]
    have H2:=Lib.hid h2
    clear HE1 h2
    go_wp2_with (go_at_call 22;exfalso;have:=H2.out;simp_all)
    all_goals
     go_ret
     exact ⟨ret_bool HE2.out.symm,BW.out⟩
 ·have HE2:Hid (R=false):=by
   show R=false
   rw [HE.out]
   by_cases h11:s.kind=t.kind
   ·by_cases h12:s.section_=t.section_
    ·by_cases h13:s.offset=t.offset
     ·exact absurd ⟨h11,h12,h13⟩ h1
     ·simp [h13]
    ·simp [h12]
   ·simp [h11]
  have H1:=Lib.hid h1
  clear HE h1
  go_enter Tryz.func20,Tryz.ntmps20
  go_wp2_with (go_at_call 45;exfalso;exact H1.out ⟨by assumption,by assumption,by assumption⟩)
  all_goals
   go_ret
   exact ⟨ret_bool HE2.out.symm,HB1.out⟩
abbrev zero19:Array Value:=#[.int .i64 0,.int .i64 0,.int .i64 0,.string ⟨#[]⟩,.string ⟨#[]⟩,.int .i64 0,.int .u64 0,.string ⟨#[]⟩,.slice none 0 0,.int .i64 0,.bool false,.bool false,.int .i64 0,.int .u64 0,.string ⟨#[]⟩,.slice none 0 0,.int .i64 0,.string ⟨#[]⟩,.slice none 0 0]
theorem box_state (v:World) (s:ST) (a1 a2 a3:Option Addr) (n1 c1 n2 c2 n3 c3:Nat):∃ V1 V2,v.alloc (.cells zero19 30)=V1∧(Instr.storeAt 30 (.pointer (some ⟨v.heap.size,0,none⟩)) (s.agg (.slice a1 n1 c1) (.slice a2 n2 c2) (.slice a3 n3 c3))).run Tryz.prog V1= .ok () V2∧
 Cells V2 v.heap.size 0 (s.cells (.slice a1 n1 c1) (.slice a2 n2 c2) (.slice a3 n3 c3))∧Below v.heap.size v V2∧V2.heap.size=v.heap.size+1:=by
 have hz:Cells (v.alloc (.cells zero19 30)) v.heap.size 0 ((zeroS 0).cells nilV nilV nilV):=cells_new (cs:=(zeroS 0).cells nilV nilV nilV)
 have hh:=cells_has hz
 have hf:∀ j,(v.alloc (.cells zero19 30)).frozen? ⟨v.heap.size,j,none⟩=false:=fun j=>World.frozen?_alloc_new _ _ _ _
 refine ⟨_,_,rfl,store_state (s:=s) (hh.there hf (o:=0) (n:=19) (Nat.le_refl _)),hh.setC (Nat.le_refl _),setCells_below (Nat.le_refl _) _ _ _ ((Below.refl _ _).alloc (Nat.le_refl _) _),?_⟩
 rw [setCells_size (v.alloc (.cells zero19 30)),heap_alloc_size]
theorem peqfs:∀ n,PsS n:=by
 intro n
 induction n with
 |zero=>intro B N ss ss' lv lv' w h;exact h.elim
 |succ n ih=>
  intro B N ss ss' lv lv' w hl hl' hB
  have HS:=Lib.hid ih
  have HL:=Lib.hid hl
  have HL':=Lib.hid hl'
  obtain ⟨p,c,rfl⟩:=hl.slice
  obtain ⟨p',c',rfl⟩:=hl'.slice
  have hlen:ss.length≤9223372036854775807:=hl.len
  have hlen':ss'.length≤9223372036854775807:=hl'.len
  clear hl hl' ih
  by_cases hll:ss.length=ss'.length
  ·obtain ⟨m,hm⟩:∃ m,ss.length=m:=⟨_,rfl⟩
   have hm':ss'.length=m:=by omega
   have Hm:=Lib.hid hm
   have Hm':=Lib.hid hm'
   rw [hm] at hlen HL ⊢
   rw [hm'] at HL' ⊢
   clear hm hm' hll hlen'
   go_enter Tryz.func46,Tryz.ntmps46
   go_wp2
   go_loopw [17] (fun i wr=>∃ (j:Nat),i= .int .i64 j∧j≤m∧Hid (eqSs (ss.drop j) (ss'.drop j)=eqSs ss ss')∧Hid (Below w.heap.size w wr)) (fun i _=>m-(intOf i).toNat)
   case atStart=>exact ⟨0,rfl,Nat.zero_le _,rfl,Below.refl _ _⟩
   case round=>
    obtain ⟨j,rfl,hj,HQ,HG⟩:=hrel
    by_cases hlt:j<m
    ·rcases HL.out with ⟨h0,_⟩|⟨b,off,c0,hp,hbB,_,hel⟩
     ·exfalso;have:=Hm.out;rw [h0] at this;simp at this;omega
     rcases HL'.out with ⟨h0,_⟩|⟨b',off',c0',hp',hbB',_,hel'⟩
     ·exfalso;have:=Hm'.out;rw [h0] at this;simp at this;omega
     rw [Hm.out] at hp
     rw [Hm'.out] at hp'
     cases hp
     cases hp'
     obtain ⟨t,ht⟩:∃ t,ss[j]? =some t:=⟨_,List.getElem?_eq_getElem (by rw [Hm.out];exact hlt)⟩
     obtain ⟨t',ht'⟩:∃ t,ss'[j]? =some t:=⟨_,List.getElem?_eq_getElem (by rw [Hm'.out];exact hlt)⟩
     obtain ⟨tf,il,al,lv,hc,hi,ha,hl⟩:=hel j t ht
     obtain ⟨tf',il',al',lv',hc',hi',ha',hl'⟩:=hel' j t' ht'
     obtain ⟨pi,ci,rfl⟩:=hi.slice
     obtain ⟨pa,ca,rfl⟩:=ha.slice
     obtain ⟨pl,cl,rfl⟩:=hl.slice
     obtain ⟨pi',ci',rfl⟩:=hi'.slice
     obtain ⟨pa',ca',rfl⟩:=ha'.slice
     obtain ⟨pl',cl',rfl⟩:=hl'.slice
     have hbw:Below B w wr:=HG.out.mono hB
     have hsz:=HG.out.size
     have hst:=Lib.hid (eqSs_step ht ht')
     have hi0:(0:Int)≤(j:Int):=by omega
     have hi1:(j:Int)<(m:Int):=by omega
     have l1:=load_state (hc.below hbw hbB)
     obtain ⟨V1,V2,hV1,hs1,k1,kb1,kz1⟩:=box_state wr t pi pa pl t.info.list.length ci t.ann.list.length ca t.inner.length cl
     have l2:=load_state (w:=V2) (hc'.below (hbw.trans (kb1.mono (by omega))) hbB')
     obtain ⟨V3,V4,hV3,hs2,k2,kb2,kz2⟩:=box_state V2 t' pi' pa' pl' t'.info.list.length ci' t'.ann.list.length ca' t'.inner.length cl'
     have l3:=load_state (w:=V4) (k1.below kb2 (by omega))
     have l4:=load_state (w:=V4) k2
     have hb4:Below wr.heap.size wr V4:=kb1.trans (kb2.mono (by omega))
     obtain ⟨X,hX⟩:∃ X,eqS t t'=X:=⟨_,rfl⟩
     rw [hX] at hst
     have HC:Hid (Calls Tryz.prog 20 #[t.agg (.slice pi t.info.list.length ci) (.slice pa t.ann.list.length ca) (.slice pl t.inner.length cl),t'.agg (.slice pi' t'.info.list.length ci') (.slice pa' t'.ann.list.length ca') (.slice pl' t'.inner.length cl')] V4 fun r w'=>r= .returned (.bool X)∧Below V4.heap.size V4 w'):=by
      have hb:Below B w V4:=hbw.trans (hb4.mono (by omega))
      have:=psame_of HS.out B N t _ _ _ t' _ _ _ V4 tf tf' (hi.below hb) (ha.below hb) (hl.below hb) (hi'.below hb) (ha'.below hb) (hl'.below hb) (by have:=hb4.size;omega)
      rw [hX] at this
      exact this
     have HB4:=Lib.hid (HG.out.trans (hb4.mono hsz))
     have hz4:=Lib.hid hb4.size
     clear hel hel' hc hc' hi ha hl hi' ha' hl' ht ht' tf tf' hX hbw k1 kb1 kz1 k2 kb2 kz2 hb4
     cases X with
     |true=>
      have hst2:Hid (eqSs (ss.drop (j+1)) (ss'.drop (j+1))=eqSs ss ss'):=by
       show eqSs _ _=_;rw [←HQ.out,hst.out,Bool.true_and]
      clear hst
      go_wp2_with (go_at_call 20;refine HC.out.mono ?_;rintro r w2 ⟨rfl,hb5⟩)
      go_roundw
      case rel=>exact ⟨j+1,by go_num,by omega,hst2.out,HB4.out.trans (hb5.mono HB4.out.size)⟩
      case measure=>simp [intOf];omega
     |false=>
      have hst2:Hid (false=eqSs ss ss'):=by
       show false=_;rw [←HQ.out,hst.out,Bool.false_and]
      clear hst
      go_wp2_with (go_at_call 20;refine HC.out.mono ?_;rintro r w2 ⟨rfl,hb5⟩)
      go_ret
      exact ⟨ret_bool hst2.out,HB4.out.trans (hb5.mono HB4.out.size)⟩
    ·obtain rfl:j=m:=by omega
     go_wp2
     go_ret
     exact ⟨ret_bool (by rw [←HQ.out,←Hm.out,eqSs_end (by rw [Hm.out,Hm'.out])]),HG.out⟩
  ·have HE:=Lib.hid (eqSs_len hll)
   have hb:((ss.length:Int)!=(ss'.length:Int))=true:=by simp;omega
   have Hll:=Lib.hid hll
   clear hll
   go_enter Tryz.func46,Tryz.ntmps46
   go_wp2
   go_ret
   exact ⟨ret_bool HE.out.symm,Below.refl _ _⟩
theorem psame_any {n B N:Nat} {s t:ST} {v v':Value} {w:World} (h:SVAt B N w n v s) (h':SVAt B N w n v' t) (hB:B≤w.heap.size):
 Calls Tryz.prog 20 #[v,v'] w fun r w'=>r= .returned (.bool (eqS s t))∧Below w.heap.size w w':=by
 obtain ⟨hf,il,al,lv,rfl,h1,h2,h3⟩:=h
 obtain ⟨hf',il',al',lv',rfl,h1',h2',h3'⟩:=h'
 exact psame_of (peqfs n) B N s il al lv t il' al' lv' w hf hf' h1 h2 h3 h1' h2' h3' hB
end Go.Proofs.YtfjlnfogbfmpiaaGreatDoor.Va
namespace Go.Proofs.YtfjlnfogbfmpiaaGreatDoor.Va
open Go Go.RowKit Nu
attribute [-go_sem] Go.Instr.loadAt Go.Instr.storeAt
attribute [local go_sem ↓] Go.wp_at_zero Go.wp_at_succ
def RsS (n:Nat):Prop:=∀ (B N:Nat) (s:ST) (il al lv:Value) (t:ST) (il' al' lv':Value) (w:World),s.Fine→t.Fine→LAt B w N il s.info.list→LAt B w N al s.ann.list→SAt B N w n lv s.inner→LAt B w N il' t.info.list→LAt B w N al' t.ann.list→SAt B N w n lv' t.inner→B≤w.heap.size→
    Calls Tryz.prog 31 #[s.agg il al lv,t.agg il' al' lv'] w fun r w'=>r= .returned (.bool (eqS s t))∧Below w.heap.size w w'
theorem rsames:∀ n,RsS n:=by
 intro n
 induction n with
 |zero=>intro B N s il al lv t il' al' lv' w _ _ _ _ h;exact h.elim
 |succ n ih=>
  intro B N s il al lv t il' al' lv' w hf hf' hil hal hlv hil' hal' hlv' hB
  have HS:=Lib.hid ih
  have HL:=Lib.hid hlv
  have HL':=Lib.hid hlv'
  obtain ⟨p,c,rfl⟩:=hlv.slice
  obtain ⟨p',c',rfl⟩:=hlv'.slice
  have hlen:s.inner.length≤9223372036854775807:=hlv.len
  have hlen':t.inner.length≤9223372036854775807:=hlv'.len
  obtain ⟨W1,hW1⟩:∃ W1,(w.alloc (.cells #[.int .i64 s.kind,.int .i64 s.section_,.int .i64 s.offset,.string s.cond,.string s.text,.int .i64 s.info.kind,.int .u64 s.info.num,.string s.info.text,il,.int .i64 s.info.elem,.bool s.failed,.bool s.elsewhere,.int .i64 s.ann.kind,.int .u64 s.ann.num,.string s.ann.text,al,.int .i64 s.ann.elem,.string s.txn,.slice p s.inner.length c] 30)).alloc (.cells #[.int .i64 t.kind,.int .i64 t.section_,.int .i64 t.offset,.string t.cond,.string t.text,.int .i64 t.info.kind,.int .u64 t.info.num,.string t.info.text,il',.int .i64 t.info.elem,.bool t.failed,.bool t.elsewhere,.int .i64 t.ann.kind,.int .u64 t.ann.num,.string t.ann.text,al',.int .i64 t.ann.elem,.string t.txn,.slice p' t.inner.length c'] 30)=W1:=⟨_,rfl⟩
  have hb:=sbox2 hW1
  have hz1:=hb.size
  have hbB:Below B w W1:=hb.below.mono hB
  have HK:Hid (∀ w2,Below W1.heap.size W1 w2→Cells w2 w.heap.size 0 (s.cells il al (.slice p s.inner.length c))∧Cells w2 (w.heap.size+1) 0 (t.cells il' al' (.slice p' t.inner.length c'))∧Below w.heap.size w w2):=fun w2 h=>⟨hb.c1.below h (by omega),hb.c2.below h (by omega),hb.below.trans (h.mono (by omega))⟩
  have HF:=Lib.hid (rsameF s.cond s.text s.info il t.cond t.text t.info il' W1 hf.i hf'.i (hil.below hbB) (hil'.below hbB) (by omega))
  have HA:Hid (∀ w2,Below W1.heap.size W1 w2→Calls Tryz.prog 28 #[.agg #[.int .i64 s.ann.kind,.int .u64 s.ann.num,.string s.ann.text,al,.int .i64 s.ann.elem],.agg #[.int .i64 t.ann.kind,.int .u64 t.ann.num,.string t.ann.text,al',.int .i64 t.ann.elem]] w2 fun r w'=>r= .returned (.bool (eqT s.ann t.ann))∧Below w2.heap.size w2 w'):=fun w2 h=>equal_any (N:=N) (B:=B) (w:=w2) ⟨hf.a,al,rfl,(hal.below hbB).below (h.mono (by omega))⟩ ⟨hf'.a,al',rfl,(hal'.below hbB).below (h.mono (by omega))⟩ (by have:=h.size;omega)
  have l4:=load_fault (o:=3) (cells_fault (s:=s) hb.c1)
  have l4':=load_fault (o:=3) (cells_fault (s:=t) hb.c2)
  clear hb hbB hf hf' hil hal hlv hil' hal' hlv' ih
  have HE:=Lib.hid (eqS_parts s t)
  obtain ⟨R,hR⟩:∃ R,eqS s t=R:=⟨_,rfl⟩
  rw [hR] at HE ⊢
  clear hR
  obtain ⟨X,hX⟩:∃ X,eqF s.cond s.text s.info t.cond t.text t.info=X:=⟨_,rfl⟩
  obtain ⟨Y,hY⟩:∃ X,eqT s.ann t.ann=X:=⟨_,rfl⟩
  rw [hX,hY] at HE
  rw [hX] at HF
  rw [hY] at HA
  clear hX hY
  go_enter Tryz.func31,Tryz.ntmps31
  go_wp2_with (fail)
  clear hW1 l4 l4'
  refine HF.out.mono ?_
  rintro r w2 ⟨rfl,hb2⟩
  obtain ⟨c1,c2,hbw⟩:=HK.out w2 hb2
  have B2:=Lib.hid hb2
  have l1:=load_sann c1
  have l2:=load_sann c2
  clear hb2 hbw c1 c2
  go_wp2_with (fail)
  clear l1 l2
  refine (HA.out w2 B2.out).mono ?_
  rintro r w3 ⟨rfl,hb3⟩
  have B3:=Lib.hid (B2.out.trans (hb3.mono B2.out.size))
  obtain ⟨c1,c2,hbw⟩:=HK.out w3 B3.out
  have BW3:=Lib.hid hbw
  have hz3:w.heap.size+2≤w3.heap.size:=by have:=B3.out.size;omega
  have q0:=load_int (cell_of c1 0 _ rfl)
  have q1:=load_int (cell_of c1 1 _ rfl)
  have q2:=load_int (cell_of c1 2 _ rfl)
  have q3:=load_bool (cell_of c1 10 _ rfl)
  have q4:=load_bool (cell_of c1 11 _ rfl)
  have q5:=load_str (cell_of c1 17 _ rfl)
  have q6:=load_slice (cell_of c1 18 _ rfl)
  have r0:=load_int (cell_of c2 0 _ rfl)
  have r1:=load_int (cell_of c2 1 _ rfl)
  have r2:=load_int (cell_of c2 2 _ rfl)
  have r3:=load_bool (cell_of c2 10 _ rfl)
  have r4:=load_bool (cell_of c2 11 _ rfl)
  have r5:=load_str (cell_of c2 17 _ rfl)
  have r6:=load_slice (cell_of c2 18 _ rfl)
  have Q6:=Lib.hid (cell_of c1 18 _ rfl)
  have R6:=Lib.hid (cell_of c2 18 _ rfl)
  clear hb3 hbw c1 c2 HF HA HK B2
  cases X with
  |false=>
   go_wp2
   go_ret
   exact ⟨ret_bool (by rw [HE.out];simp),BW3.out⟩
  |true=>
  cases Y with
  |false=>
   go_wp2
   go_ret
   exact ⟨ret_bool (by rw [HE.out];simp),BW3.out⟩
  |true=>
  by_cases h:s.kind=t.kind
  rotate_left
  ·have e:(s.kind !=t.kind)=true:=by simp [h]
   have HF:Hid (R=false):=by show R=_;rw [HE.out];simp [h]
   go_wp2
   go_ret
   exact ⟨ret_bool HF.out.symm,BW3.out⟩
  have h1:=h
  have e1:(s.kind !=t.kind)=false:=by simp [h]
  clear h
  have H1:=Lib.hid h1
  clear h1
  by_cases h:s.section_=t.section_
  rotate_left
  ·have e:(s.section_ !=t.section_)=true:=by simp [h]
   have HF:Hid (R=false):=by show R=_;rw [HE.out];simp [h]
   go_wp2
   go_ret
   exact ⟨ret_bool HF.out.symm,BW3.out⟩
  have h2:=h
  have e2:(s.section_ !=t.section_)=false:=by simp [h]
  clear h
  have H2:=Lib.hid h2
  clear h2
  by_cases h:s.offset=t.offset
  rotate_left
  ·have e:(s.offset !=t.offset)=true:=by simp [h]
   have HF:Hid (R=false):=by show R=_;rw [HE.out];simp [h]
   go_wp2
   go_ret
   exact ⟨ret_bool HF.out.symm,BW3.out⟩
  have h3:=h
  have e3:(s.offset !=t.offset)=false:=by simp [h]
  clear h
  have H3:=Lib.hid h3
  clear h3
  by_cases h:s.failed=t.failed
  rotate_left
  ·have e:(s.failed !=t.failed)=true:=by simp [h]
   have HF:Hid (R=false):=by show R=_;rw [HE.out];simp [h]
   go_wp2
   go_ret
   exact ⟨ret_bool HF.out.symm,BW3.out⟩
  have h4:=h
  have e4:(s.failed !=t.failed)=false:=by simp [h]
  clear h
  have H4:=Lib.hid h4
  clear h4
  by_cases h:s.elsewhere=t.elsewhere
  rotate_left
  ·have e:(s.elsewhere !=t.elsewhere)=true:=by simp [h]
   have HF:Hid (R=false):=by show R=_;rw [HE.out];simp [h]
   go_wp2
   go_ret
   exact ⟨ret_bool HF.out.symm,BW3.out⟩
  have h5:=h
  have e5:(s.elsewhere !=t.elsewhere)=false:=by simp [h]
  clear h
  have H5:=Lib.hid h5
  clear h5
  by_cases h:s.txn=t.txn
  rotate_left
  ·have h':¬s.txn.toList=t.txn.toList:=fun hh=>h (toList_inj hh)
   have e:(s.txn.toList !=t.txn.toList)=true:=by simp [h']
   have e':(s.txn.toList==t.txn.toList)=false:=by simp [h']
   have HF:Hid (R=false):=by show R=_;rw [HE.out];simp [h']
   clear h h'
   go_wp2
   go_ret
   exact ⟨ret_bool HF.out.symm,BW3.out⟩
  have e6:(s.txn.toList !=t.txn.toList)=false:=by simp [h]
  have e7:(s.txn.toList==t.txn.toList)=true:=by simp [h]
  have H6:=Lib.hid h
  clear h
  by_cases hll:s.inner.length=t.inner.length
  rotate_left
  ·have hb:((s.inner.length:Int)!=(t.inner.length:Int))=true:=by simp;omega
   have HF:Hid (R=false):=by show R=_;rw [HE.out,eqSs_len hll];simp
   clear hll
   go_wp2
   go_ret
   exact ⟨ret_bool HF.out.symm,BW3.out⟩
  have HE2:Hid (eqSs s.inner t.inner=R):=by show _=R;rw [HE.out,H1.out,H2.out,H3.out,H4.out,H5.out,H6.out];simp
  clear HE H1 H2 H3 H6
  obtain ⟨m,hm⟩:∃ m,s.inner.length=m:=⟨_,rfl⟩
  have hm':t.inner.length=m:=by omega
  have Hm:=Lib.hid hm
  have Hm':=Lib.hid hm'
  rw [hm] at hlen HL q6 Q6 hll ⊢
  rw [hm'] at HL' r6 R6 hll ⊢
  clear hm hm' hll hlen'
  go_wp2
  all_goals try (exfalso;first|exact (by assumption:¬s.elsewhere=t.elsewhere) H5.out|exact (by assumption:¬s.failed=t.failed) H4.out)
  clear q0 q1 q2 q3 q4 q5 q6 r0 r1 r2 r3 r4 r5 r6 e1 e2 e3 e4 e5 e6 e7
  go_loopw [7,8] (fun i x wr=>∃ (j:Nat),i= .int .i64 j∧j≤m∧Hid (eqSs (s.inner.drop j) (t.inner.drop j)=R)∧Hid (Below w3.heap.size w3 wr)) (fun i _ _=>m-(intOf i).toNat)
  case atStart=>exact ⟨0,rfl,Nat.zero_le _,HE2,Below.refl _ _⟩
  case round=>
   obtain ⟨j,rfl,hj,HQ,HG⟩:=hrel
   have hbw3:Below w.heap.size w wr:=BW3.out.trans (HG.out.mono (by omega))
   have hsz:=HG.out.size
   have d1:wr.cell? ⟨w.heap.size,18,none⟩=some (.slice p m c):=(HG.out.cell (p:=⟨w.heap.size,18,none⟩) (by show w.heap.size<_;omega)).trans Q6.out
   have d2:wr.cell? ⟨w.heap.size+1,18,none⟩=some (.slice p' m c'):=(HG.out.cell (p:=⟨w.heap.size+1,18,none⟩) (by show w.heap.size+1<_;omega)).trans R6.out
   have l1:=load_slice d1
   by_cases hlt:j<m
   ·rcases HL.out with ⟨h0,_⟩|⟨b,off,c0,hp,hbB,_,hel⟩
    ·exfalso;have:=Hm.out;rw [h0] at this;simp at this;omega
    rcases HL'.out with ⟨h0,_⟩|⟨b',off',c0',hp',hbB',_,hel'⟩
    ·exfalso;have:=Hm'.out;rw [h0] at this;simp at this;omega
    rw [Hm.out] at hp
    rw [Hm'.out] at hp'
    cases hp
    cases hp'
    obtain ⟨u,hu⟩:∃ z,s.inner[j]? =some z:=⟨_,List.getElem?_eq_getElem (by rw [Hm.out];exact hlt)⟩
    obtain ⟨u',hu'⟩:∃ z,t.inner[j]? =some z:=⟨_,List.getElem?_eq_getElem (by rw [Hm'.out];exact hlt)⟩
    obtain ⟨tf,il,al,lv,hc,hi,ha,hl⟩:=hel j u hu
    obtain ⟨tf',il',al',lv',hc',hi',ha',hl'⟩:=hel' j u' hu'
    have hbw:Below B w wr:=hbw3.mono hB
    have hst:=Lib.hid (eqSs_step hu hu')
    have hi0:(0:Int)≤(j:Int):=by omega
    have hi1:(j:Int)<(m:Int):=by omega
    have hbs:b<wr.heap.size:=by have:=hbw3.size;omega
    have hbs':b'<wr.heap.size:=by have:=hbw3.size;omega
    have hws:w.heap.size+1<wr.heap.size:=by omega
    obtain ⟨X,hX⟩:∃ X,eqS u u'=X:=⟨_,rfl⟩
    rw [hX] at hst
    have HC:Hid (∀ w',Below wr.heap.size wr w'→Calls Tryz.prog 31 #[u.agg il al lv,u'.agg il' al' lv'] w' fun r w''=>r= .returned (.bool X)∧Below wr.heap.size w' w''):=fun w' h=>by
     have hb:Below B w w':=hbw.trans (h.mono (by have:=hbw3.size;omega))
     have:=HS.out B N u il al lv u' il' al' lv' w' tf tf' (hi.below hb) (ha.below hb) (hl.below hb) (hi'.below hb) (ha'.below hb) (hl'.below hb) (by have:=h.size;have:=hbw3.size;omega)
     rw [hX] at this
     exact this.mono fun r w'' ⟨x,y⟩=>⟨x,y.mono h.size⟩
    have HALL:Hid (∀ w',Below wr.heap.size wr w'→(Below wr.heap.size wr w'∧(Instr.loadAt 30 (.pointer (some ⟨b,off+j*19,none⟩))).run Tryz.prog w'= .ok (u.agg il al lv) w'∧(Instr.loadAt 30 (.pointer (some ⟨b',off'+j*19,none⟩))).run Tryz.prog w'= .ok (u'.agg il' al' lv') w'∧(Instr.loadAt 28 (.pointer (some ⟨w.heap.size,18,none⟩))).run Tryz.prog w'= .ok (.slice (some ⟨b,off,none⟩) m c) w'∧(Instr.loadAt 28 (.pointer (some ⟨w.heap.size+1,18,none⟩))).run Tryz.prog w'= .ok (.slice (some ⟨b',off',none⟩) m c') w')):=fun w' h=>
     ⟨h,load_state ((hc.below hbw hbB).below h hbs),load_state ((hc'.below hbw hbB').below h hbs'),load_slice ((h.cell (p:=⟨w.heap.size,18,none⟩) (by show w.heap.size<_;omega)).trans d1),load_slice ((h.cell (p:=⟨w.heap.size+1,18,none⟩) (by show w.heap.size+1<_;omega)).trans d2)⟩
    clear hel hel' hc hc' hi ha hl hi' ha' hl' hu hu' tf tf' hX hbw
    go_wp2
    go_region_held3 (fun w'=>Below wr.heap.size wr w'∧(Instr.loadAt 30 (.pointer (some ⟨b,off+j*19,none⟩))).run Tryz.prog w'= .ok (u.agg il al lv) w'∧(Instr.loadAt 30 (.pointer (some ⟨b',off'+j*19,none⟩))).run Tryz.prog w'= .ok (u'.agg il' al' lv') w'∧(Instr.loadAt 28 (.pointer (some ⟨w.heap.size,18,none⟩))).run Tryz.prog w'= .ok (.slice (some ⟨b,off,none⟩) m c) w'∧(Instr.loadAt 28 (.pointer (some ⟨w.heap.size+1,18,none⟩))).run Tryz.prog w'= .ok (.slice (some ⟨b',off',none⟩) m c') w')
     (first
       |with_reducible exact HALL.out _ ((Below.refl _ _).drew.trans hb5.out)
       |with_reducible exact HALL.out _ (Below.refl _ _).drew)
     ((go_at_call 31;refine (HC.out _ (Below.refl _ _).drew).mono ?_;rintro r w4 ⟨rfl,hb5'⟩;have hb5:=Lib.hid hb5';clear hb5'))
    have HG4:=Lib.hid (HG.out.trans (((Below.refl _ _).drew.trans hb5.out).mono hsz))
    clear HALL HC d1 d2 l1 hb5
    cases X with
    |false=>
     go_wp2
     go_ret
     exact ⟨ret_bool (by rw [←HQ.out,hst.out,Bool.false_and]),BW3.out.trans (HG4.out.mono (by omega))⟩
    |true=>
     go_wp2
     go_roundw
     case rel=>exact ⟨j+1,by go_num,by omega,by rw [←HQ.out,hst.out,Bool.true_and];exact rfl,HG4.out⟩
     case measure=>simp [intOf];omega
   ·obtain rfl:j=m:=by omega
    go_wp2
    go_ret
    exact ⟨ret_bool (by rw [←HQ.out,←Hm.out,eqSs_end (by rw [Hm.out,Hm'.out])]),hbw3⟩
theorem rsame_any {n B N:Nat} {s t:ST} {v v':Value} {w:World} (h:SVAt B N w n v s) (h':SVAt B N w n v' t) (hB:B≤w.heap.size):
 Calls Tryz.prog 31 #[v,v'] w fun r w'=>r= .returned (.bool (eqS s t))∧Below w.heap.size w w':=by
 obtain ⟨hf,il,al,lv,rfl,h1,h2,h3⟩:=h
 obtain ⟨hf',il',al',lv',rfl,h1',h2',h3'⟩:=h'
 exact rsames n B N s il al lv t il' al' lv' w hf hf' h1 h2 h3 h1' h2' h3' hB
end Go.Proofs.YtfjlnfogbfmpiaaGreatDoor.Va
namespace Go.Proofs.YtfjlnfogbfmpiaaGreatDoor.Va
open Go Go.RowKit Nu
attribute [-go_sem] Go.Instr.storeAt Go.Instr.loadAt
attribute [local go_sem ↓] Go.wp_at_zero Go.wp_at_succ
abbrev oddA:Value:= .agg #[.int .i64 (-7),.int .i64 0,.int .i64 0,.string ⟨#[]⟩,.string ⟨#[]⟩,.int .i64 0,.int .u64 0,.string ⟨#[]⟩,.slice none 0 0,.int .i64 0,.bool false,.bool false,.int .i64 0,.int .u64 0,.string ⟨#[]⟩,.slice none 0 0,.int .i64 0,.string ⟨#[]⟩,.slice none 0 0]
theorem zero_vfine:(VT.mk 0 0 ⟨#[]⟩ 0 []).Fine:=⟨by show _≤(0:Int);omega,by show (0:Int)≤_;omega,by show (0:Int)≤0;omega,by show (0:Int)≤_;omega,by show _≤(0:Int);omega,by show (0:Int)≤_;omega,by show (0:Nat)≤_;omega⟩
theorem zeroS_fine {k:Int} (h0: -9223372036854775808≤k) (h1:k≤9223372036854775807):(zeroS k).Fine:=
 ⟨h0,h1,by show _≤(0:Int);omega,by show (0:Int)≤_;omega,by show _≤(0:Int);omega,by show (0:Int)≤_;omega,Nat.zero_le _,Nat.zero_le _,Nat.zero_le _,zero_vfine,zero_vfine⟩
theorem odd_svat {B N n:Nat} (w:World):SVAt B (N+1) w (n+1) oddA (zeroS (-7)):=
 ⟨zeroS_fine (by omega) (by omega),nilV,nilV,nilV,rfl,.inl ⟨rfl,_,_,rfl⟩,.inl ⟨rfl,_,_,rfl⟩,.inl ⟨rfl,_,_,rfl⟩⟩
def KaS (n:Nat):Prop:=∀ (B N lo hi:Nat) (s:ST) (il al lv il0 al0 lv0:Value) (m1 m2:Nat) (w:World),s.Fine→LentAt w N lo m1 il s.info.list→LentAt w N m1 m2 al s.ann.list→SLent3 w N n m2 hi lv s.inner→LAt B w N il0 s.info.list→LAt B w N al0 s.ann.list→SAt B N w n lv0 s.inner→B≤lo→hi≤w.heap.size→
    Calls Tryz.prog 24 #[s.agg il al lv,s.agg il0 al0 lv0] w fun r w'=>r= .returned (.bool true)∧Apart lo hi w w'
theorem aslents:∀ n,KaS n:=by
 intro n
 induction n with
 |zero=>intro B N lo hi s il al lv il0 al0 lv0 m1 m2 w _ _ _ h;exact h.elim
 |succ n ih=>
  intro B N lo hi s il al lv il0 al0 lv0 m1 m2 w hf hl1 hl2 hl3 ho1 ho2 ho3 hB hhi
  have HS:=Lib.hid ih
  have HL:=Lib.hid ho3
  obtain ⟨p,c,rfl⟩:=ho3.slice
  have e1:=hl1.le
  have e2:=hl2.le
  have e3:=hl3.le
  obtain ⟨N0,hN0⟩:∃ N0,N=N0+1:=by
   cases N with
   |zero=>exact hl1.elim
   |succ k=>exact ⟨k,rfl⟩
  have HN0:=Lib.hid hN0
  clear hN0
  obtain ⟨bX,rfl,hlo,hbh,hlen,_⟩:=slent_open3 hl3
  obtain ⟨m,hm⟩:∃ m,s.inner.length=m:=⟨_,rfl⟩
  have Hm:=Lib.hid hm
  obtain ⟨W1,hW1⟩:∃ W1,(w.alloc (.cells #[.int .i64 s.kind,.int .i64 s.section_,.int .i64 s.offset,.string s.cond,.string s.text,.int .i64 s.info.kind,.int .u64 s.info.num,.string s.info.text,il,.int .i64 s.info.elem,.bool s.failed,.bool s.elsewhere,.int .i64 s.ann.kind,.int .u64 s.ann.num,.string s.ann.text,al,.int .i64 s.ann.elem,.string s.txn,lentSS bX s.inner.length] 30)).alloc (.cells #[.int .i64 s.kind,.int .i64 s.section_,.int .i64 s.offset,.string s.cond,.string s.text,.int .i64 s.info.kind,.int .u64 s.info.num,.string s.info.text,il0,.int .i64 s.info.elem,.bool s.failed,.bool s.elsewhere,.int .i64 s.ann.kind,.int .u64 s.ann.num,.string s.ann.text,al0,.int .i64 s.ann.elem,.string s.txn,.slice p s.inner.length c] 30)=W1:=⟨_,rfl⟩
  have hz1:W1.heap.size=w.heap.size+2:=by rw [←hW1,heap_alloc_size,heap_alloc_size]
  obtain ⟨k1,k2,_,_,kb1,_⟩:=two_cells (w:=w) (w2:=W1) (cs:=s.cells il al (lentSS bX s.inner.length)) (ds:=s.cells il0 al0 (.slice p s.inner.length c)) (T:=30) (by rw [←hW1];exact Below.refl _ _)
  have HK:Hid (∀ w2,Apart lo hi W1 w2→Cells w2 w.heap.size 0 (s.cells il al (lentSS bX s.inner.length))∧Cells w2 (w.heap.size+1) 0 (s.cells il0 al0 (.slice p s.inner.length c))∧Apart lo hi w w2):=fun w2 h=>⟨k1.apart h (by omega) (.inr hhi),k2.apart h (by omega) (.inr (by omega)),(Apart.of_below kb1 (Nat.le_refl _)).trans h⟩
  have hl1':=hl1.below (by omega) (kb1.mono (Nat.le_refl _))
  have hl2':=hl2.below (by omega) (kb1.mono (Nat.le_refl _))
  have hl3':=hl3.below hhi (kb1.mono (Nat.le_refl _))
  have hbB:B≤w.heap.size:=by omega
  have HC0:Hid (Calls Tryz.prog 31 #[s.agg il al (lentSS bX s.inner.length),s.agg il0 al0 (.slice p s.inner.length c)] W1 fun r w'=>r= .returned (.bool true)∧Below W1.heap.size W1 w'):=by
   have:=rsame_any (B:=W1.heap.size) (n:=n+1) (N:=N) (s:=s) (t:=s) (w:=W1) ⟨hf,il,al,_,rfl,hl1'.lat (by omega),hl2'.lat (by omega),hl3'.sat (by omega)⟩ ⟨hf,il0,al0,_,rfl,(ho1.below (kb1.mono hbB)).up' (by omega),(ho2.below (kb1.mono hbB)).up' (by omega),sat_up (by omega) (ho3.below (kb1.mono hbB))⟩ (Nat.le_refl _)
   rw [eqS_refl] at this
   exact this
  have HC1:Hid (∀ w2,Below W1.heap.size W1 w2→Calls Tryz.prog 25 #[.agg #[.int .i64 s.info.kind,.int .u64 s.info.num,.string s.info.text,il,.int .i64 s.info.elem],.agg #[.int .i64 s.info.kind,.int .u64 s.info.num,.string s.info.text,il0,.int .i64 s.info.elem]] w2 fun r w'=>r= .returned (.bool true)∧Apart lo m1 w2 w'):=fun w2 h=>
   kept_of (kepts N) B lo m1 s.info.kind s.info.num s.info.text s.info.elem s.info.list il il0 w2 (hl1'.below (by omega) h) ((ho1.below (kb1.mono hbB)).below (h.mono (by omega))) hB (by have:=h.size;omega)
  have HC2:Hid (∀ w2,Apart lo m1 W1 w2→Calls Tryz.prog 25 #[.agg #[.int .i64 s.ann.kind,.int .u64 s.ann.num,.string s.ann.text,al,.int .i64 s.ann.elem],.agg #[.int .i64 s.ann.kind,.int .u64 s.ann.num,.string s.ann.text,al0,.int .i64 s.ann.elem]] w2 fun r w'=>r= .returned (.bool true)∧Apart m1 m2 w2 w'):=fun w2 h=>
   kept_of (kepts N) B m1 m2 s.ann.kind s.ann.num s.ann.text s.ann.elem s.ann.list al al0 w2 (hl2'.apart h (by omega) (.inr (Nat.le_refl _))) (ho2.below ((kb1.mono hbB).trans (h.below hB (by omega)))) (by omega) (by have:=h.size;omega)
  have HKR:Hid (∀ w3,Apart lo m2 W1 w3→KRel3 w3 w3 N n bX m2 hi 0 s.inner∧hi≤w3.heap.size∧w.heap.size+2≤w3.heap.size∧Below B w w3):=fun w3 h=>by
   have h3:=hl3'.apart h (by omega) (.inr (Nat.le_refl _))
   obtain ⟨b',hb',_,_,_,hk⟩:=slent_open3 h3
   have:bX=b':=by simpa using hb'
   subst this
   exact ⟨hk,by have:=h.size;omega,by have:=h.size;omega,(kb1.mono hbB).trans (h.below hB (by omega))⟩
  rw [hm] at hlen HL k1 k2 HK hW1 HC0 ⊢
  clear hm
  have q1:=load_state k1
  have r1:=load_state k2
  clear k1 k2 kb1 hz1 hl1 hl2 hl3 ho1 ho2 ho3 hl1' hl2' hl3' ih hf
  go_enter Tryz.func24,Tryz.ntmps24
  go_wp2_with (fail)
  clear hW1 q1 r1
  refine HC0.out.mono ?_
  rintro r w0 ⟨rfl,hb0⟩
  have B0:=Lib.hid hb0
  obtain ⟨c1,c2,_⟩:=HK.out w0 (Apart.of_below hb0 (Nat.le_refl _))
  have q1:(Instr.loadAt 25 (.pointer (some ⟨w.heap.size,3+2,none⟩))).run Tryz.prog w0= .ok (.agg #[.int .i64 s.info.kind,.int .u64 s.info.num,.string s.info.text,il,.int .i64 s.info.elem]) w0:=load_value (o:=5) (cells_infoV (s:=s) c1)
  have r1:(Instr.loadAt 25 (.pointer (some ⟨w.heap.size+1,3+2,none⟩))).run Tryz.prog w0= .ok (.agg #[.int .i64 s.info.kind,.int .u64 s.info.num,.string s.info.text,il0,.int .i64 s.info.elem]) w0:=load_value (o:=5) (cells_infoV (s:=s) c2)
  clear c1 c2 hb0 HC0
  go_wp2_with (fail)
  clear q1 r1
  refine (HC1.out w0 B0.out).mono ?_
  rintro r w2 ⟨rfl,ha2⟩
  have A2:=Lib.hid ((Apart.of_below (lo:=lo) (hi:=m1) B0.out (Nat.le_refl _)).trans ha2)
  obtain ⟨c1,c2,_⟩:=HK.out w2 (A2.out.wide (Nat.le_refl _) (by omega))
  have q1:(Instr.loadAt 25 (.pointer (some ⟨w.heap.size,12,none⟩))).run Tryz.prog w2= .ok (.agg #[.int .i64 s.ann.kind,.int .u64 s.ann.num,.string s.ann.text,al,.int .i64 s.ann.elem]) w2:=load_value (o:=12) (cells_ann (s:=s) c1)
  have r1:(Instr.loadAt 25 (.pointer (some ⟨w.heap.size+1,12,none⟩))).run Tryz.prog w2= .ok (.agg #[.int .i64 s.ann.kind,.int .u64 s.ann.num,.string s.ann.text,al0,.int .i64 s.ann.elem]) w2:=load_value (o:=12) (cells_ann (s:=s) c2)
  clear c1 c2 ha2 B0
  go_wp2_with (fail)
  clear q1 r1
  refine (HC2.out w2 A2.out).mono ?_
  rintro r w3 ⟨rfl,ha3⟩
  have A3:=Lib.hid ((A2.out.wide (Nat.le_refl lo) (by omega:m1≤m2)).trans (ha3.wide (by omega) (Nat.le_refl _)))
  clear ha3 A2 HC2 HC1
  obtain ⟨c1,c2,hA3⟩:=HK.out w3 (A3.out.wide (Nat.le_refl _) (by omega))
  obtain ⟨hKR,hh3,hs3,hB3⟩:=HKR.out w3 A3.out
  have HKR0:=Lib.hid hKR
  have HA3:=Lib.hid hA3
  have HB3:=Lib.hid hB3
  have q6:=load_slice (cell_of c1 18 _ rfl)
  have r6:=load_slice (cell_of c2 18 _ rfl)
  have R6:=Lib.hid (cell_of c2 18 _ rfl)
  have hw2:IntKind.i64.wrap ((m:Int)+3)=m+3:=by rw [IntKind.wrap_i64];omega
  clear c1 c2 hKR hA3 hB3 HKR HK
  go_wp2
  clear q6 r6
  go_loopw [5,10,11] (fun g i x wr=>g= .bool true∧∃ (j:Nat),i= .int .i64 j∧j≤m+3∧Hid (KRel3 w3 wr N n bX m2 hi j s.inner)) (fun _ i _ _=>m+3-(intOf i).toNat)
  case atStart=>exact ⟨rfl,0,rfl,Nat.zero_le _,HKR0⟩
  case round=>
   obtain ⟨rfl,j,rfl,hj,HR⟩:=hrel
   have hap:=HR.out.apart
   have hsz:=hap.size
   have d18:wr.cell? ⟨w.heap.size+1,18,none⟩=some (.slice p m c):=(hap.cell (p:=⟨w.heap.size+1,18,none⟩) (by show w.heap.size+1<_;omega) (.inr (by show hi≤w.heap.size+1;omega))).trans R6.out
   by_cases hlt:j<m+3
   ·have hlt':(j:Int)<(m:Int)+3:=by omega
    have hMK:Hid (∀ w2,(w2.there bX (j*19) 19)→(Instr.storeAt 30 (.pointer (some ⟨bX,j*19,none⟩)) (.agg #[.int .i64 (-8),.int .i64 0,.int .i64 0,.string ⟨#[]⟩,.string ⟨#[]⟩,.int .i64 0,.int .u64 0,.string ⟨#[]⟩,.slice none 0 0,.int .i64 0,.bool false,.bool false,.int .i64 0,.int .u64 0,.string ⟨#[]⟩,.slice none 0 0,.int .i64 0,.string ⟨#[]⟩,.slice none 0 0])).run Tryz.prog w2= .ok () (w2.setCells bX (j*19) ((zeroS (-8)).cells nilV nilV nilV))):=fun w2 h=>store_state (s:=zeroS (-8)) h
    have hj0:(0:Int)≤(j:Int):=by omega
    have hbw9:bX<wr.heap.size:=by omega
    by_cases hjm:j<m
    ·obtain ⟨t,ht⟩:∃ t,s.inner[j]? =some t:=⟨_,List.getElem?_eq_getElem (by rw [Hm.out];exact hjm)⟩
     obtain ⟨x,y,il',al',lv',n1,n2,hbx,hy,tf,hcl,g1,g2,g3,hst⟩:=HR.out.head ht hlo hh3
     have hx1:=g1.le
     have hx2:=g2.le
     have hx3:=g3.le
     have HT:=Lib.hid ht
     obtain ⟨n0,hn0⟩:∃ n0,n=n0+1:=by
      cases n with
      |zero=>exact g3.elim
      |succ k=>exact ⟨k,rfl⟩
     have HLX:Hid (∀ v,Below wr.heap.size wr v→(Instr.loadAt 30 (.pointer (some ⟨bX,j*19,none⟩))).run Tryz.prog v= .ok (t.agg il' al' lv') v):=fun v h=>load_state (hcl.below h hbw9)
     obtain ⟨X,hX⟩:∃ X,eqS t (zeroS (-7))=X:=⟨_,rfl⟩
     have HSM:Hid (∀ v,Below wr.heap.size wr v→Calls Tryz.prog 31 #[t.agg il' al' lv',oddA] v fun r w'=>r= .returned (.bool X)∧Below v.heap.size v w'):=fun v h=>by
      have hv:=h.size
      have:=rsame_any (B:=v.heap.size) (n:=n) (N:=N) (s:=t) (t:=zeroS (-7)) (w:=v) ⟨tf,il',al',lv',rfl,(g1.below (by omega) h).lat (by omega),(g2.below (by omega) h).lat (by omega),(g3.below (by omega) h).sat (by omega)⟩ (by rw [HN0.out,hn0];exact odd_svat v) (Nat.le_refl _)
      rw [hX] at this
      exact this
     have HTF:=Lib.hid tf
     clear hX hn0 hcl g1 g2 g3 hst tf ht hap
     go_wp2
     go_region_held3 (fun v=>(Instr.loadAt 30 (.pointer (some ⟨bX,j*19,none⟩))).run Tryz.prog v= .ok (t.agg il' al' lv') v)
      (first
        |with_reducible exact HLX.out _ hbs
        |with_reducible exact HLX.out _ hba
        |with_reducible exact HLX.out _ (Below.refl _ _).drew)
      ((first
        |(go_at_call 43;refine (odd_any _).mono ?_;rintro r wa ⟨rfl,hba'⟩;have hba:Below wr.heap.size wr wa:=(Below.refl _ _).drew.trans hba';clear hba')
        |(go_at_call 31;refine (HSM.out _ hba).mono ?_;rintro r w5 ⟨rfl,hbs'⟩;have hbs:Below wr.heap.size wr w5:=hba.trans (hbs'.mono hba.size);clear hbs')))
     have HR5:=Lib.hid (HR.out.grow hbh hh3 hbs)
     have hap:=HR5.out.apart
     have d18':w5.cell? ⟨w.heap.size+1,18,none⟩=some (.slice p m c):=(hbs.cell (p:=⟨w.heap.size+1,18,none⟩) (by show w.heap.size+1<_;omega)).trans d18
     have hsz5:=hbs.size
     clear hba hbs HSM HLX d18 HR HTF
     rcases HL.out with ⟨h0,_⟩|⟨b0,off,c',hp,hbB,_,hel⟩
     ·exfalso;have:=Hm.out;rw [h0] at this;simp at this;omega
     rw [Hm.out] at hp
     cases hp
     obtain ⟨x,y,il',al',lv',n1,n2,hbx,hy,tf,hcl,g1,g2,g3,hst⟩:=HR5.out.head HT.out hlo hh3
     obtain ⟨_,il'',al'',lv'',hc,hi',ha',hl'⟩:=hel j t HT.out
     have hbw:Below B w w5:=HB3.out.trans (hap.below (by omega) (by omega))
     have hc0:=hc.below hbw hbB
     have hjm':(j:Int)<(m:Int):=by omega
     have hx1:=g1.le
     have hx2:=g2.le
     have hx3:=g3.le
     have HC:Hid (∀ w',Below w5.heap.size w5 w'→Calls Tryz.prog 24 #[t.agg il' al' lv',t.agg il'' al'' lv''] w' fun r w''=>r= .returned (.bool true)∧Apart x y w' w''):=fun w' h=>
      HS.out B N x y t il' al' lv' il'' al'' lv'' n1 n2 w' tf (g1.below (by omega) h) (g2.below (by omega) h) (g3.below (by omega) h) ((hi'.below hbw).below (h.mono (by omega))) ((ha'.below hbw).below (h.mono (by omega))) ((hl'.below hbw).below (h.mono (by omega))) (by omega) (by have:=h.size;omega)
     have HST:=Lib.hid hst
     have hHas:=Lib.hid (show ∀ w2,Apart x y w5 w2→w2.there bX (j*19) 19 from fun w2 h=>(HR5.out.has.apart h (by omega) (.inl hbx)).there (fun o=>(h.frozen (p:=⟨bX,o,none⟩) (by show bX<w5.heap.size;omega) (.inl hbx)).trans (HR5.out.froz o)) (by rw [Hm.out];omega))
     have HALL:Hid (∀ w',Apart x y w5 w'→(Apart x y w5 w'∧(Instr.loadAt 30 (.pointer (some ⟨bX,j*19,none⟩))).run Tryz.prog w'= .ok (t.agg il' al' lv') w'∧(Instr.loadAt 30 (.pointer (some ⟨b0,off+j*19,none⟩))).run Tryz.prog w'= .ok (t.agg il'' al'' lv'') w'∧(Instr.loadAt 28 (.pointer (some ⟨w.heap.size+1,18,none⟩))).run Tryz.prog w'= .ok (.slice (some ⟨b0,off,none⟩) m c) w')):=fun w' h=>
      ⟨h,load_state (hcl.apart h (by omega) (.inl hbx)),load_state (hc0.apart h (by omega) (.inl (by omega))),load_slice ((h.cell (p:=⟨w.heap.size+1,18,none⟩) (by show w.heap.size+1<_;omega) (.inr (by show y≤w.heap.size+1;omega))).trans d18')⟩
     clear hel hc hi' ha' hl' tf hcl g1 g2 g3 hst hbw hc0 hap d18'
     go_wp2
     go_region_held3 (fun w'=>Apart x y w5 w'∧(Instr.loadAt 30 (.pointer (some ⟨bX,j*19,none⟩))).run Tryz.prog w'= .ok (t.agg il' al' lv') w'∧(Instr.loadAt 30 (.pointer (some ⟨b0,off+j*19,none⟩))).run Tryz.prog w'= .ok (t.agg il'' al'' lv'') w'∧(Instr.loadAt 28 (.pointer (some ⟨w.heap.size+1,18,none⟩))).run Tryz.prog w'= .ok (.slice (some ⟨b0,off,none⟩) m c) w')
      (first
        |with_reducible exact HALL.out _ ((Apart.refl _ _ _).drew.trans hb2.out)
        |with_reducible exact HALL.out _ (Apart.refl _ _ _).drew)
      ((go_at_call 24;refine (HC.out _ (Below.refl _ _).drew).mono ?_;rintro r w2 ⟨rfl,hb2'⟩;have hb2:=Lib.hid hb2';clear hb2'))
     have hb3:=Lib.hid ((Apart.refl x y w5).drew.trans hb2.out)
     have hstm:=hMK.out w2 (hHas.out w2 hb3.out)
     clear HALL HC
     go_wp2
     go_roundw
     case rel=>exact ⟨rfl,j+1,by go_num,by omega,HST.out w2 hb3.out _ (scells_len _ _ _ _)⟩
     case measure=>simp [intOf];omega
    ·have hjm':¬((j:Int)<(m:Int)):=by omega
     obtain ⟨ds,d1,d2,d3⟩:=HR.out.marks j (by rw [Hm.out];omega) (by rw [Hm.out];exact hlt) (Nat.le_refl _)
     subst d2
     have HLX:Hid (∀ v,Below wr.heap.size wr v→(Instr.loadAt 30 (.pointer (some ⟨bX,j*19,none⟩))).run Tryz.prog v= .ok oddA v):=fun v h=>load_state (s:=zeroS (-7)) (il:=nilV) (al:=nilV) (lv:=nilV) (d3.below h hbw9)
     have HSM:Hid (∀ v,Below wr.heap.size wr v→Calls Tryz.prog 31 #[oddA,oddA] v fun r w'=>r= .returned (.bool true)∧Below v.heap.size v w'):=fun v h=>by
      have:=rsame_any (B:=v.heap.size) (n:=0+1) (N:=0+1) (s:=zeroS (-7)) (t:=zeroS (-7)) (w:=v) (odd_svat v) (odd_svat v) (Nat.le_refl _)
      rw [eqS_refl] at this
      exact this
     clear d1 d3 hap
     go_wp2
     go_region_held3 (fun v=>(Instr.loadAt 30 (.pointer (some ⟨bX,j*19,none⟩))).run Tryz.prog v= .ok oddA v)
      (first
        |with_reducible exact HLX.out _ hbs
        |with_reducible exact HLX.out _ hba
        |with_reducible exact HLX.out _ (Below.refl _ _).drew)
      ((first
        |(go_at_call 43;refine (odd_any _).mono ?_;rintro r wa ⟨rfl,hba'⟩;have hba:Below wr.heap.size wr wa:=(Below.refl _ _).drew.trans hba';clear hba')
        |(go_at_call 31;refine (HSM.out _ hba).mono ?_;rintro r w5 ⟨rfl,hbs'⟩;have hbs:Below wr.heap.size wr w5:=hba.trans (hbs'.mono hba.size);clear hbs')))
     have HR5:=Lib.hid (HR.out.grow hbh hh3 hbs)
     have hstm:=hMK.out w5 (HR5.out.has.there HR5.out.froz (by rw [Hm.out];omega))
     clear hba hbs HSM HLX d18 HR
     go_wp2
     go_roundw
     case rel=>exact ⟨rfl,j+1,by go_num,by omega,HR5.out.mark (by rw [Hm.out];omega) (by rw [Hm.out];exact hlt) hlo hbh (scells_len _ _ _ _)⟩
     case measure=>simp [intOf];omega
   ·obtain rfl:j=m+3:=by omega
    go_wp2
    go_ret
    exact ⟨rfl,HA3.out.trans (hap.wide (by omega) (Nat.le_refl _))⟩
end Go.Proofs.YtfjlnfogbfmpiaaGreatDoor.Va
namespace Go.Proofs.YtfjlnfogbfmpiaaGreatDoor.Va
open Go Go.RowKit Nu
theorem store_str {w:World} {b o:Nat} {s:ByteArray} (h:w.there b o 1):(Instr.storeAt 9 (.pointer (some ⟨b,o,none⟩)) (.string s)).run Tryz.prog w= .ok () (w.setCells b o [.string s]):=by
 have h0:=h 0 (by omega)
 obtain ⟨u,hu⟩:=Option.isSome_iff_exists.1 h0.1
 have hf:=h0.2
 have:=Tryz.underlying9
 have:=Tryz.sizeOf9
 show _=Result.ok () (w.setCell ⟨b,o,none⟩ (.string s))
 rw [Nat.add_zero] at hu hf
 go_simp
attribute [-go_sem] Go.Instr.storeAt Go.Instr.loadAt
attribute [local go_sem ↓] Go.wp_at_zero Go.wp_at_succ
noncomputable def infoX:TypeInfo:=match Tryz.prog.info? 9 with|some i=>i|none=>default
theorem info_x:Tryz.prog.info? 9=some infoX:=by kernel_rfl
theorem infoX_zero:infoX.zero.isSome=true:=by kernel_rfl
theorem infoX_size:infoX.size=1:=by kernel_rfl
theorem infoX_bytes:infoX.bytes≤4096:=of_decide_eq_true (by kernel_rfl)
theorem make_texts (w:World) (n:Nat) (hn:n≤100000):∃ C:Array Value,C.size=n+3∧(Instr.makeSlice 31 (.int .i64 (n+3)) (.int .i64 (n+3))).run Tryz.prog w= .ok (.slice (some ⟨w.heap.size,0,none⟩) (n+3) (n+3)) (w.alloc (.cells C 9)):=by
 obtain ⟨z,hz⟩:=Option.isSome_iff_exists.1 infoX_zero
 have:=run_make (P:=Tryz.prog) w 31 9 infoX _ Tryz.underlying31 info_x hz .i64 .i64 (n+3) (n+3) (by omega) (Int.le_refl _) (by have:=infoX_bytes;have:(infoX.bytes:Int)*((n:Int)+3)≤4096*100003:=Int.mul_le_mul (by omega) (by omega) (by omega) (by omega);omega) (by omega)
 rw [infoX_size] at this
 have e:(((n:Int)+3).toNat)=n+3:=by omega
 rw [e] at this
 exact ⟨_,by rw [size_madeCells];omega,this⟩
theorem lentX_any {B:Nat} {lv:Value} {l:List ByteArray} {w:World} (h:XAt B w lv l) (hB:B≤w.heap.size) (hl:l.length≤100000):
 Calls Tryz.prog 44 #[lv] w fun r w'=>∃ b,r= .returned (.slice (some ⟨b,0,none⟩) l.length (l.length+3))∧XLent w' w.heap.size w'.heap.size (.slice (some ⟨b,0,none⟩) l.length (l.length+3)) l∧Below w.heap.size w w':=by
 obtain ⟨p,c,rfl,hlm,hel⟩:=h
 have HEL:=Lib.hid hel
 obtain ⟨n,hn⟩:∃ n,l.length=n:=⟨_,rfl⟩
 have HN:=Lib.hid hn
 rw [hn] at hl hlm ⊢
 obtain ⟨C,hC,hmk⟩:=make_texts w n hl
 have hw3:IntKind.i64.wrap ((n:Int)+3)=n+3:=by rw [IntKind.wrap_i64];omega
 have HR0:Hid (XRel w (w.alloc (.cells C 9)) l 0):=XRel.start (by rw [HN.out];exact hC)
 clear hn hel hC
 go_enter Tryz.func44,Tryz.ntmps44
 go_wp2
 clear hmk
 go_loopw [5] (fun i wr=>∃ j:Nat,i= .int .i64 j∧j≤n+3∧Hid (XRel w wr l j)) (fun i _=>n+3-(intOf i).toNat)
 case atStart=>exact ⟨0,rfl,Nat.zero_le _,HR0⟩
 case round=>
  obtain ⟨j,rfl,hj,HR⟩:=hrel
  by_cases hlt:j<n+3
  ·have hlt':(j:Int)<(n:Int)+3:=by omega
   have hj0:(0:Int)≤(j:Int):=by omega
   have hst1:=store_str (s:=behindB) (HR.out.has.there HR.out.froz (o:=j) (n:=1) (by rw [HN.out];omega))
   replace hst1:(Instr.storeAt 9 (.pointer (some ⟨w.heap.size,j,none⟩)) (.string ⟨#[98,101,104,105,110,100]⟩)).run Tryz.prog wr= .ok () (wr.setCells w.heap.size j [.string behindB]):=hst1
   have HP:=Lib.hid (HR.out.put (by rw [HN.out];exact hlt) behindB)
   by_cases hjn:j<n
   ·obtain ⟨s,hs⟩:∃ s,l[j]? =some s:=⟨_,List.getElem?_eq_getElem (by rw [HN.out];exact hjn)⟩
    obtain ⟨b,off,rfl,hbB,hc⟩:=HEL.out j s hs
    have hjn':(j:Int)<(n:Int):=by omega
    obtain ⟨Z,hZ⟩:∃ Z,wr.setCells w.heap.size j [.string behindB]=Z:=⟨_,rfl⟩
    rw [hZ] at hst1 HP
    have hld:=load_str ((HP.out.below.cell (p:=⟨b,off+j,none⟩) (by show b<_;omega)).trans hc)
    have hst2:=store_str (s:=s) (HP.out.has.there HP.out.froz (o:=j) (n:=1) (by rw [HN.out];omega))
    have HS:=Lib.hid (HP.out.step (by rw [HN.out];exact hlt) (spT_at hs).symm)
    clear hZ hs hc
    go_wp2
    go_roundw
    case rel=>exact ⟨j+1,by go_num,by omega,HS.out⟩
    case measure=>simp [intOf];omega
   ·have hjn':¬(j:Int)<(n:Int):=by omega
    have HS:=Lib.hid (HR.out.step (by rw [HN.out];exact hlt) (spT_out (l:=l) (k:=j) (by rw [HN.out];omega)).symm)
    go_wp2
    go_roundw
    case rel=>exact ⟨j+1,by go_num,by omega,HS.out⟩
    case measure=>simp [intOf];omega
  ·obtain rfl:j=n+3:=by omega
   have HF:Hid (XLent wr w.heap.size wr.heap.size (.slice (some ⟨w.heap.size,0,none⟩) n (n+3)) l∧Below w.heap.size w wr):=by
    have h:=HR.out
    rw [←HN.out] at h ⊢
    exact ⟨h.fin (by rw [HN.out];exact hl),h.below⟩
   go_wp2
   go_ret
   exact ⟨w.heap.size,rfl,HF.out.1,HF.out.2⟩
theorem ydrewN {w wr:World} {b lo hi j:Nat} {l:List ByteArray} (h:YRel w wr b lo hi j l) (q:Nat):YRel w (wr.drewN q) b lo hi j l:=⟨⟨h.apart.os,h.apart.tape,h.apart.output,h.apart.size,h.apart.block⟩,h.has,h.froz,h.rest⟩
theorem asLentX_any {B lo hi:Nat} {v lv:Value} {l:List ByteArray} {w:World} (h:XLent w lo hi v l) (ho:XAt B w lv l) (hB:B≤lo) (hhi:hi≤w.heap.size):
 Calls Tryz.prog 50 #[v,lv] w fun r w'=>r= .returned (.bool true)∧Apart lo hi w w':=by
 obtain ⟨p,c,rfl,hlm,hel⟩:=ho
 have HEL:=Lib.hid hel
 obtain ⟨bX,rfl,hlo,hbh,hl,hY⟩:=h.open
 have HY0:=Lib.hid hY
 obtain ⟨n,hn⟩:∃ n,l.length=n:=⟨_,rfl⟩
 have HN:=Lib.hid hn
 rw [hn] at hl hlm ⊢
 have hw3:IntKind.i64.wrap ((n:Int)+3)=n+3:=by rw [IntKind.wrap_i64];omega
 clear hn hel h hY
 go_enter Tryz.func50,Tryz.ntmps50
 go_wp2
 go_loopw [7,8,9] (fun g i x wr=>g= .bool true∧∃ j:Nat,i= .int .i64 j∧j≤n+3∧Hid (YRel w wr bX lo hi j l)) (fun _ i _ _=>n+3-(intOf i).toNat)
 case atStart=>exact ⟨rfl,0,rfl,Nat.zero_le _,HY0⟩
 case round=>
  obtain ⟨rfl,j,rfl,hj,HR⟩:=hrel
  by_cases hlt:j<n+3
  ·have hlt':(j:Int)<(n:Int)+3:=by omega
   have hj0:(0:Int)≤(j:Int):=by omega
   have hst1:=store_str (s:=⟨#[111,118,101,114]⟩) (HR.out.has.there HR.out.froz (o:=j) (n:=1) (by rw [HN.out];omega))
   have HS:=Lib.hid (HR.out.step (by rw [HN.out];exact hlt) hlo hbh ⟨#[111,118,101,114]⟩)
   have hl1:=load_str (HR.out.rest j (Nat.le_refl _) (by rw [HN.out];exact hlt))
   by_cases hjn:j<n
   ·obtain ⟨s,hs⟩:∃ s,l[j]? =some s:=⟨_,List.getElem?_eq_getElem (by rw [HN.out];exact hjn)⟩
    obtain ⟨b,off,rfl,hbB,hc⟩:=HEL.out j s hs
    have hjn':(j:Int)<(n:Int):=by omega
    rw [spT_at hs] at hl1
    have hc2:=(HR.out.apart.cell (p:=⟨b,off+j,none⟩) (by show b<_;omega) (.inl (by show b<lo;omega))).trans hc
    have hl2:∀ q,(Instr.loadAt 9 (.pointer (some ⟨b,off+j,none⟩))).run Tryz.prog (wr.drewN q)= .ok (.string s) (wr.drewN q):=fun q=>load_str (w:=wr.drewN q) hc2
    have hl3:∀ q,(Instr.loadAt 9 (.pointer (some ⟨bX,j,none⟩))).run Tryz.prog (wr.drewN q)= .ok (.string s) (wr.drewN q):=fun q=>by
     have:=HR.out.rest j (Nat.le_refl _) (by rw [HN.out];exact hlt)
     rw [spT_at hs] at this
     exact load_str (w:=wr.drewN q) this
    have HSQ:Hid (∀ q,(Instr.storeAt 9 (.pointer (some ⟨bX,j,none⟩)) (.string ⟨#[111,118,101,114]⟩)).run Tryz.prog (wr.drewN q)= .ok () ((wr.drewN q).setCells bX j [.string ⟨#[111,118,101,114]⟩])∧YRel w ((wr.drewN q).setCells bX j [.string ⟨#[111,118,101,114]⟩]) bX lo hi (j+1) l):=fun q=>by
     have h:=ydrewN HR.out q
     exact ⟨store_str (h.has.there h.froz (o:=j) (n:=1) (by rw [HN.out];omega)),h.step (by rw [HN.out];exact hlt) hlo hbh _⟩
    clear hs hc hc2 hst1 HS
    go_wp2
    all_goals
     go_quiet (fail)
     have hst2:=(HSQ.out nq).1
     have HS2:=Lib.hid (HSQ.out nq).2
     generalize hZ:(wr.drewN nq).setCells bX j [.string ⟨#[111,118,101,114]⟩]=Z at hst2 HS2
     clear hl2 hl3
     go_wp2
     go_roundw
     case rel=>exact ⟨rfl,j+1,by go_num,by omega,HS2.out⟩
     case measure=>simp [intOf];omega
   ·have hjn':¬(j:Int)<(n:Int):=by omega
    rw [spT_out (l:=l) (k:=j) (by rw [HN.out];omega)] at hl1
    replace hl1:(Instr.loadAt 9 (.pointer (some ⟨bX,j,none⟩))).run Tryz.prog wr= .ok (.string ⟨#[98,101,104,105,110,100]⟩) wr:=hl1
    go_wp2
    go_roundw
    case rel=>exact ⟨rfl,j+1,by go_num,by omega,HS.out⟩
    case measure=>simp [intOf];omega
  ·obtain rfl:j=n+3:=by omega
   have HA:=Lib.hid HR.out.apart
   go_wp2
   go_ret
   exact ⟨rfl,HA.out⟩
theorem rsameX_any {B:Nat} {v v':Value} {l l':List ByteArray} {w:World} (h:XAt B w v l) (h':XAt B w v' l'):
 Calls Tryz.prog 51 #[v,v'] w fun r w'=>r= .returned (.bool (eqX l l'))∧Below w.heap.size w w':=by
 obtain ⟨p,c,rfl,hlm,hel⟩:=h
 obtain ⟨p',c',rfl,hlm',hel'⟩:=h'
 have HEL:=Lib.hid hel
 have HEL':=Lib.hid hel'
 obtain ⟨X,hX⟩:∃ X,eqX l l'=X:=⟨_,rfl⟩
 have HX:=Lib.hid hX
 obtain ⟨n,hn⟩:∃ n,l.length=n:=⟨_,rfl⟩
 obtain ⟨n',hn'⟩:∃ n,l'.length=n:=⟨_,rfl⟩
 have HN:=Lib.hid hn
 have HN':=Lib.hid hn'
 rw [hn] at hlm
 rw [hn'] at hlm'
 rw [hX,hn,hn']
 clear hX hel hel' hn hn'
 have hlm2:(n:Int)≤9223372036854775807:=by
  have:maxLen≤9223372036854775807:=by decide
  omega
 by_cases he:n=n'
 ·subst he
  go_enter Tryz.func51,Tryz.ntmps51
  go_wp2
  go_loopw [5] (fun i wr=>∃ j:Nat,i= .int .i64 j∧j≤n∧Hid (∀ (k:Nat) (a b:ByteArray),k<j→l[k]? =some a→l'[k]? =some b→a=b)∧Hid (Below w.heap.size w wr∧wr.heap=w.heap)) (fun i _=>n-(intOf i).toNat)
  case atStart=>exact ⟨0,rfl,Nat.zero_le _,fun k a b h=>by omega,Below.refl _ _,rfl⟩
  case round=>
   obtain ⟨j,rfl,hj,HQ,HB⟩:=hrel
   by_cases hlt:j<n
   ·obtain ⟨s,hs⟩:∃ s,l[j]? =some s:=⟨_,List.getElem?_eq_getElem (by rw [HN.out];exact hlt)⟩
    obtain ⟨s',hs'⟩:∃ s,l'[j]? =some s:=⟨_,List.getElem?_eq_getElem (by rw [HN'.out];exact hlt)⟩
    obtain ⟨b,off,rfl,hbB,hc⟩:=HEL.out j s hs
    obtain ⟨b',off',rfl,hbB',hc'⟩:=HEL'.out j s' hs'
    have hlt':(j:Int)<(n:Int):=by omega
    have hj0:(0:Int)≤(j:Int):=by omega
    have hl2:∀ q,(Instr.loadAt 9 (.pointer (some ⟨b,off+j,none⟩))).run Tryz.prog (wr.drewN q)= .ok (.string s) (wr.drewN q):=fun q=>load_str (w:=wr.drewN q) ((World.cell?_of_block (a:=⟨b,off+j,none⟩) (by show wr.heap[b]? =_;rw [HB.out.2])).trans hc)
    have hl3:∀ q,(Instr.loadAt 9 (.pointer (some ⟨b',off'+j,none⟩))).run Tryz.prog (wr.drewN q)= .ok (.string s') (wr.drewN q):=fun q=>load_str (w:=wr.drewN q) ((World.cell?_of_block (a:=⟨b',off'+j,none⟩) (by show wr.heap[b']? =_;rw [HB.out.2])).trans hc')
    have HS:=Lib.hid hs
    have HS':=Lib.hid hs'
    have HBQ:Hid (∀ q,Below w.heap.size w (wr.drewN q)∧(wr.drewN q).heap=w.heap):=fun q=>⟨⟨HB.out.1.os,HB.out.1.tape,HB.out.1.output,HB.out.1.size,HB.out.1.block⟩,HB.out.2⟩
    clear hs hs' hc hc'
    by_cases hss:s=s'
    ·have HQ2:Hid (∀ (k:Nat) (a b:ByteArray),k<j+1→l[k]? =some a→l'[k]? =some b→a=b):=fun k a b hk ha hb=>by
      rcases Nat.lt_or_ge k j with h|h
      ·exact HQ.out k a b h ha hb
      ·obtain rfl:k=j:=by omega
       rw [HS.out] at ha;rw [HS'.out] at hb
       cases ha;cases hb
       exact hss
     subst hss
     go_wp2
     go_quiet (fail)
     have HB2:=Lib.hid (HBQ.out nq)
     clear hl2 hl3
     go_wp2
     exact ⟨⟨j+1,by go_num,by omega,HQ2.out,HB2.out⟩,by simp [intOf];omega⟩
    ·have hX:Hid (X=false):=HX.out.symm.trans (eqX_ne HS.out HS'.out hss)
     have hne:(s.toList==s'.toList)=false:=by
      have:¬s.toList=s'.toList:=fun h=>hss (toList_inj h)
      simp [this]
     go_wp2
     go_quiet (fail)
     have HB2:=Lib.hid (HBQ.out nq)
     clear hl2 hl3
     go_wp2
     go_ret
     exact ⟨ret_bool hX.out.symm,HB2.out.1⟩
   ·obtain rfl:j=n:=by omega
    have hX:Hid (X=true):=HX.out.symm.trans (eqX_all (HN.out.trans HN'.out.symm) fun i a b ha hb=>HQ.out i a b (by rw [←HN.out];exact (List.getElem?_eq_some_iff.1 ha).1) ha hb)
    have HB2:=Lib.hid HB.out
    go_wp2
    go_ret
    exact ⟨ret_bool hX.out.symm,HB2.out.1⟩
 ·have hX:Hid (X=false):=HX.out.symm.trans (eqX_len (by rw [HN.out,HN'.out];exact he))
  have hne:((n:Int)!=(n':Int))=true:=by simp;omega
  go_enter Tryz.func51,Tryz.ntmps51
  go_wp2
  go_ret
  exact ⟨ret_bool hX.out.symm,Below.refl _ _⟩
theorem psameX_any {B:Nat} {v v':Value} {l l':List ByteArray} {w:World} (h:XAt B w v l) (h':XAt B w v' l'):
 Calls Tryz.prog 47 #[v,v'] w fun r w'=>r= .returned (.bool (eqX l l'))∧Below w.heap.size w w':=by
 obtain ⟨p,c,rfl,hlm,hel⟩:=h
 obtain ⟨p',c',rfl,hlm',hel'⟩:=h'
 have HEL:=Lib.hid hel
 have HEL':=Lib.hid hel'
 obtain ⟨X,hX⟩:∃ X,eqX l l'=X:=⟨_,rfl⟩
 have HX:=Lib.hid hX
 obtain ⟨n,hn⟩:∃ n,l.length=n:=⟨_,rfl⟩
 obtain ⟨n',hn'⟩:∃ n,l'.length=n:=⟨_,rfl⟩
 have HN:=Lib.hid hn
 have HN':=Lib.hid hn'
 rw [hn] at hlm
 rw [hn'] at hlm'
 rw [hX,hn,hn']
 clear hX hel hel' hn hn'
 have hlm2:(n:Int)≤9223372036854775807:=by
  have:maxLen≤9223372036854775807:=by decide
  omega
 by_cases he:n=n'
 ·subst he
  go_enter Tryz.func47,Tryz.ntmps47
  go_wp2
  go_loopw [13] (fun i wr=>∃ j:Nat,i= .int .i64 j∧j≤n∧Hid (∀ (k:Nat) (a b:ByteArray),k<j→l[k]? =some a→l'[k]? =some b→a=b)∧Hid (Below w.heap.size w wr∧wr.heap=w.heap)) (fun i _=>n-(intOf i).toNat)
  case atStart=>exact ⟨0,rfl,Nat.zero_le _,fun k a b h=>by omega,Below.refl _ _,rfl⟩
  case round=>
   obtain ⟨j,rfl,hj,HQ,HB⟩:=hrel
   by_cases hlt:j<n
   ·obtain ⟨s,hs⟩:∃ s,l[j]? =some s:=⟨_,List.getElem?_eq_getElem (by rw [HN.out];exact hlt)⟩
    obtain ⟨s',hs'⟩:∃ s,l'[j]? =some s:=⟨_,List.getElem?_eq_getElem (by rw [HN'.out];exact hlt)⟩
    obtain ⟨b,off,rfl,hbB,hc⟩:=HEL.out j s hs
    obtain ⟨b',off',rfl,hbB',hc'⟩:=HEL'.out j s' hs'
    have hlt':(j:Int)<(n:Int):=by omega
    have hj0:(0:Int)≤(j:Int):=by omega
    have hl2:∀ q,(Instr.loadAt 9 (.pointer (some ⟨b,off+j,none⟩))).run Tryz.prog (wr.drewN q)= .ok (.string s) (wr.drewN q):=fun q=>load_str (w:=wr.drewN q) ((World.cell?_of_block (a:=⟨b,off+j,none⟩) (by show wr.heap[b]? =_;rw [HB.out.2])).trans hc)
    have hl3:∀ q,(Instr.loadAt 9 (.pointer (some ⟨b',off'+j,none⟩))).run Tryz.prog (wr.drewN q)= .ok (.string s') (wr.drewN q):=fun q=>load_str (w:=wr.drewN q) ((World.cell?_of_block (a:=⟨b',off'+j,none⟩) (by show wr.heap[b']? =_;rw [HB.out.2])).trans hc')
    have HS:=Lib.hid hs
    have HS':=Lib.hid hs'
    have HBQ:Hid (∀ q,Below w.heap.size w (wr.drewN q)∧(wr.drewN q).heap=w.heap):=fun q=>⟨⟨HB.out.1.os,HB.out.1.tape,HB.out.1.output,HB.out.1.size,HB.out.1.block⟩,HB.out.2⟩
    clear hs hs' hc hc'
    by_cases hss:s=s'
    ·have HQ2:Hid (∀ (k:Nat) (a b:ByteArray),k<j+1→l[k]? =some a→l'[k]? =some b→a=b):=fun k a b hk ha hb=>by
      rcases Nat.lt_or_ge k j with h|h
      ·exact HQ.out k a b h ha hb
      ·obtain rfl:k=j:=by omega
       rw [HS.out] at ha;rw [HS'.out] at hb
       cases ha;cases hb
       exact hss
     subst hss
     go_wp2
     go_quiet (fail)
     have HB2:=Lib.hid (HBQ.out nq)
     clear hl2 hl3
     go_wp2
     exact ⟨⟨j+1,by go_num,by omega,HQ2.out,HB2.out⟩,by simp [intOf];omega⟩
    ·have hX:Hid (X=false):=HX.out.symm.trans (eqX_ne HS.out HS'.out hss)
     have hne:(s.toList==s'.toList)=false:=by
      have:¬s.toList=s'.toList:=fun h=>hss (toList_inj h)
      simp [this]
     go_wp2
     go_quiet (fail)
     have HB2:=Lib.hid (HBQ.out nq)
     clear hl2 hl3
     go_wp2
     go_ret
     exact ⟨ret_bool hX.out.symm,HB2.out.1⟩
   ·obtain rfl:j=n:=by omega
    have hX:Hid (X=true):=HX.out.symm.trans (eqX_all (HN.out.trans HN'.out.symm) fun i a b ha hb=>HQ.out i a b (by rw [←HN.out];exact (List.getElem?_eq_some_iff.1 ha).1) ha hb)
    have HB2:=Lib.hid HB.out
    go_wp2
    go_ret
    exact ⟨ret_bool hX.out.symm,HB2.out.1⟩
 ·have hX:Hid (X=false):=HX.out.symm.trans (eqX_len (by rw [HN.out,HN'.out];exact he))
  have hne:((n:Int)!=(n':Int))=true:=by simp;omega
  go_enter Tryz.func47,Tryz.ntmps47
  go_wp2
  go_ret
  exact ⟨ret_bool hX.out.symm,Below.refl _ _⟩
end Go.Proofs.YtfjlnfogbfmpiaaGreatDoor.Va
namespace Go.Proofs.YtfjlnfogbfmpiaaGreatDoor.Va
open Go Go.RowKit Nu
theorem load_texts {w:World} {a:Addr} {v:Value} (h:w.cell? a=some v):(Instr.loadAt 31 (.pointer (some a))).run Tryz.prog w= .ok v w:=by
 have:=Tryz.underlying31
 have:=Tryz.sizeOf31
 go_simp
theorem store_texts {w:World} {b o:Nat} {a:Option Addr} {n c:Nat} (h:w.there b o 1):(Instr.storeAt 31 (.pointer (some ⟨b,o,none⟩)) (.slice a n c)).run Tryz.prog w= .ok () (w.setCells b o [.slice a n c]):=by
 have h0:=h 0 (by omega)
 obtain ⟨u,hu⟩:=Option.isSome_iff_exists.1 h0.1
 have hf:=h0.2
 have:=Tryz.underlying31
 have:=Tryz.sizeOf31
 show _=Result.ok () (w.setCell ⟨b,o,none⟩ (.slice a n c))
 rw [Nat.add_zero] at hu hf
 go_simp
attribute [-go_sem] Go.Instr.storeAt Go.Instr.loadAt
theorem load_term {w:World} {b o:Nat} {t:TT} {s:TS} (h:Cells w b o (t.cells s)):(Instr.loadAt 33 (.pointer (some ⟨b,o,none⟩))).run Tryz.prog w= .ok (t.agg s) w:=
 Go.run_loadAt_mid w b o 33 (t.cells s) _ h Tryz.underlying33 rfl (by kernel_rfl)
theorem loadVar_term {w:World} {b o:Nat} {t:TT} {s:TS} (h:Cells w b o (t.cells s)):(loadVar 33 ⟨b,o,none⟩).run Tryz.prog w= .ok (t.agg s) w:=
 Go.run_loadVar_mid w b o 33 (t.cells s) _ h Tryz.underlying33 rfl (by kernel_rfl)
theorem store_term {w:World} {b o:Nat} {t:TT} {s:TS} (h:w.there b o 29) (h1:s.one):(Instr.storeAt 33 (.pointer (some ⟨b,o,none⟩)) (t.agg s)).run Tryz.prog w= .ok () (w.setCells b o (t.cells s)):=
 Go.run_storeAt_mid w b o 33 (t.cells s).toArray h (by kernel_rfl) (by obtain ⟨a,b,c,d,e⟩:=h1;simp [TT.cells,tpre,ST.cells,a,b,c,d,e];simp [Value.oneCell'])
theorem cells_tstate {w:World} {b o:Nat} {t:TT} {s:TS} (h:Cells w b o (t.cells s)):Cells w b (o+8) (t.dflt.cells s.il s.al s.lv):=cells_left (cells_right (cs:=tpre t) h)
theorem cells_outs {w:World} {b o:Nat} {t:TT} {s:TS} (h:Cells w b o (t.cells s)):w.cell? ⟨b,o+27,none⟩=some s.ov:=h 27 _ rfl
theorem cells_caps {w:World} {b o:Nat} {t:TT} {s:TS} (h:Cells w b o (t.cells s)):w.cell? ⟨b,o+28,none⟩=some s.cv:=h 28 _ rfl
theorem patch_tstate {w:World} {b:Nat} {t:TT} {s:TS} (il al lv:Value) (h:Cells w b 0 (t.cells s)):Cells (w.setCells b 8 (t.dflt.cells il al lv)) b 0 (t.cells {s with il:=il,al:=al,lv:=lv}):=
 cells_patch (pre:=tpre t) (mid:=t.dflt.cells s.il s.al s.lv) (mid':=t.dflt.cells il al lv) (post:=[s.ov,s.cv]) h rfl
theorem patch_outs {w:World} {b:Nat} {t:TT} {s:TS} (ov:Value) (h:Cells w b 0 (t.cells s)):Cells (w.setCells b 27 [ov]) b 0 (t.cells {s with ov:=ov}):=
 cells_patch (pre:=tpre t++t.dflt.cells s.il s.al s.lv) (mid:=[s.ov]) (mid':=[ov]) (post:=[s.cv]) h rfl
theorem patch_caps {w:World} {b:Nat} {t:TT} {s:TS} (cv:Value) (h:Cells w b 0 (t.cells s)):Cells (w.setCells b 28 [cv]) b 0 (t.cells {s with cv:=cv}):=
 cells_patch (pre:=tpre t++(t.dflt.cells s.il s.al s.lv++[s.ov])) (mid:=[s.cv]) (mid':=[cv]) (post:=[]) h rfl
def zeroTT:TT:=⟨0,⟨#[]⟩,0,0,0,false,0,⟨#[]⟩,zeroS 0,[],[]⟩
def nilTS:TS:=⟨nilV,nilV,nilV,nilV,nilV⟩
structure TBox (w v:World) (x y:List Value):Prop where
 c1:Cells v w.heap.size 0 x
 c2:Cells v (w.heap.size+1) 0 y
 f1:∀ j,v.frozen? ⟨w.heap.size,j,none⟩=false
 f2:∀ j,v.frozen? ⟨w.heap.size+1,j,none⟩=false
 below:Below w.heap.size w v
 size:w.heap.size+2≤v.heap.size
theorem TBox.new {w W1:World} {x y:List Value} {T:TypeId} (h:(w.alloc (.cells x.toArray T)).alloc (.cells y.toArray T)=W1):TBox w W1 x y∧W1.heap.size=w.heap.size+2:=by
 obtain ⟨k1,k2,f1,f2,kb,ks⟩:=two_cells (w:=w) (w2:=W1) (cs:=x) (ds:=y) (T:=T) (by rw [←h];exact Below.refl _ _)
 exact ⟨⟨k1,k2,f1,f2,kb,ks⟩,by rw [←h,heap_alloc_size,heap_alloc_size]⟩
theorem TBox.grow {w v v':World} {x y:List Value} (h:TBox w v x y) (hb:Below (w.heap.size+2) v v'):TBox w v' x y:=by
 have hs:=h.size
 exact ⟨h.c1.below hb (by omega),h.c2.below hb (by omega),fun j=>(hb.frozen (p:=⟨_,j,none⟩) (by show w.heap.size<_;omega)).trans (h.f1 j),fun j=>(hb.frozen (p:=⟨_,j,none⟩) (by show w.heap.size+1<_;omega)).trans (h.f2 j),h.below.trans (hb.mono (by omega)),by have:=hb.size;omega⟩
theorem TBox.set {w v:World} {x x' y:List Value} {o:Nat} {vs:List Value} (h:TBox w v x y) (hx:Cells (v.setCells w.heap.size o vs) w.heap.size 0 x'):TBox w (v.setCells w.heap.size o vs) x' y:=
 ⟨hx,setCells_keep h.c2 (.inl (by omega)),fun j=>(World.frozen?_setCells _ _ _ _ _).trans (h.f1 j),fun j=>(World.frozen?_setCells _ _ _ _ _).trans (h.f2 j),setCells_below (Nat.le_refl _) _ _ _ h.below,by rw [setCells_size v];exact h.size⟩
theorem set_apart (v:World) (b o:Nat) (vs:List Value):Apart b (b+1) v (v.setCells b o vs):=setCells_apart (Nat.le_refl _) (Nat.lt_succ_self _) _ _ _ (Apart.refl _ _ _)
theorem lentT_any {B N n:Nat} {t:TT} {s:TS} {w:World} (h:TAt B N n w t s) (hB:B≤w.heap.size) (s1:Sms t.dflt.info.list) (s2:Sms t.dflt.ann.list) (s3:Ssm t.dflt.inner) (s4:t.outs.length≤100000) (s5:t.caps.length≤100000):
 Calls Tryz.prog 17 #[t.agg s] w fun r w'=>∃ s' m1 m2 m3 m4,r= .returned (t.agg s')∧s'.one∧TLent w' N n w.heap.size w'.heap.size t s' m1 m2 m3 m4∧Below w.heap.size w w':=by
 obtain ⟨W1,hW1⟩:∃ W1,(w.alloc (.cells (t.cells s).toArray 33)).alloc (.cells #[.int .i64 0,.string ⟨#[]⟩,.int .i64 0,.int .i64 0,.int .i64 0,.bool false,.int .i64 0,.string ⟨#[]⟩,.int .i64 0,.int .i64 0,.int .i64 0,.string ⟨#[]⟩,.string ⟨#[]⟩,.int .i64 0,.int .u64 0,.string ⟨#[]⟩,.slice none 0 0,.int .i64 0,.bool false,.bool false,.int .i64 0,.int .u64 0,.string ⟨#[]⟩,.slice none 0 0,.int .i64 0,.string ⟨#[]⟩,.slice none 0 0,.slice none 0 0,.slice none 0 0] 33)=W1:=⟨_,rfl⟩
 obtain ⟨hbx,hz1⟩:=TBox.new (x:=t.cells s) (y:=zeroTT.cells nilTS) hW1
 have HT:=Lib.hid (h.below (hbx.below.mono hB))
 have hld1:(Instr.loadAt 30 (.pointer (some ⟨w.heap.size,8,none⟩))).run Tryz.prog W1= .ok (t.dflt.agg s.il s.al s.lv) W1:=load_state (o:=8) (by have:=cells_tstate hbx.c1;rwa [Nat.zero_add] at this)
 have HBX:=Lib.hid hbx
 have HC1:=Lib.hid (lentStates n B N t.dflt s.il s.al s.lv W1 HT.out.fine HT.out.info HT.out.ann HT.out.inner s1 s2 s3 (by omega))
 have HS4:=Lib.hid s4
 have HS5:=Lib.hid s5
 have HXO:=Lib.hid h.outs
 have HXC:=Lib.hid h.caps
 clear h s1 s2 s3 s4 s5 hbx
 go_enter Tryz.func17,Tryz.ntmps17
 go_wp2_with (fail)
 clear hW1 hld1
 refine HC1.out.mono ?_
 rintro r w2 ⟨bi,ba,bl,m1,m2,rfl,e1,e2,e3,hb2⟩
 have hbx2:=HBX.out.grow (hb2.mono (by omega))
 have l1:=e1.le
 have l2:=e2.le
 have l3:=e3.le
 have hst1:=store_state (s:=t.dflt) (a1:=some ⟨bi,0,none⟩) (n1:=t.dflt.info.list.length) (c1:=t.dflt.info.list.length+3) (a2:=some ⟨ba,0,none⟩) (n2:=t.dflt.ann.list.length) (c2:=t.dflt.ann.list.length+3) (a3:=some ⟨bl,0,none⟩) (n3:=t.dflt.inner.length) (c3:=t.dflt.inner.length+3) ((cells_has hbx2.c1).there hbx2.f1 (o:=8) (n:=19) (by rw [TT.cells_len];omega))
 have hbx3:=hbx2.set (patch_tstate (lentSl bi t.dflt.info.list.length) (lentSl ba t.dflt.ann.list.length) (lentSS bl t.dflt.inner.length) hbx2.c1)
 have ha3:=set_apart w2 w.heap.size 8 (t.dflt.cells (lentSl bi t.dflt.info.list.length) (lentSl ba t.dflt.ann.list.length) (lentSS bl t.dflt.inner.length))
 have hz3:=setCells_size w2 w.heap.size (t.dflt.cells (lentSl bi t.dflt.info.list.length) (lentSl ba t.dflt.ann.list.length) (lentSS bl t.dflt.inner.length)) 8 w2
 generalize w2.setCells w.heap.size 8 (t.dflt.cells (lentSl bi t.dflt.info.list.length) (lentSl ba t.dflt.ann.list.length) (lentSS bl t.dflt.inner.length))=X at*
 have E1:Hid (LentAt X N (w.heap.size+2) m1 (lentSl bi t.dflt.info.list.length) t.dflt.info.list∧LentAt X N m1 m2 (lentSl ba t.dflt.ann.list.length) t.dflt.ann.list∧SLent3 X N n m2 X.heap.size (lentSS bl t.dflt.inner.length) t.dflt.inner∧w.heap.size+2≤X.heap.size):=by
  rw [hz3]
  exact ⟨(e1.apart ha3 (by omega) (.inr (by omega))).lo (by omega),e2.apart ha3 (by omega) (.inr (by omega)),e3.apart ha3 (by omega) (.inr (by omega)),by omega⟩
 have HX:=Lib.hid hbx3
 have hld2:=load_texts (by have:=cells_outs hbx3.c1;rwa [Nat.zero_add] at this)
 have HC2:=Lib.hid (lentX_any (HXO.out.below (hbx3.below.mono hB)) (by have:=hbx3.size;omega) HS4.out)
 clear hbx2 hbx3 ha3 hz3 e1 e2 e3 hb2 l1 l2 l3 HC1 HBX HXO
 go_wp2_with (fail)
 clear hst1 hld2
 refine HC2.out.mono ?_
 rintro r w4 ⟨bo,rfl,x4,hb4⟩
 have hbx4:=HX.out.grow (hb4.mono (by have:=HX.out.size;omega))
 have hst2:=store_texts (a:=some ⟨bo,0,none⟩) (n:=t.outs.length) (c:=t.outs.length+3) ((cells_has hbx4.c1).there hbx4.f1 (o:=27) (n:=1) (by rw [TT.cells_len];omega))
 have hbx5:=hbx4.set (patch_outs (.slice (some ⟨bo,0,none⟩) t.outs.length (t.outs.length+3)) hbx4.c1)
 have ha5:=set_apart w4 w.heap.size 27 [.slice (some ⟨bo,0,none⟩) t.outs.length (t.outs.length+3)]
 have hz5:=setCells_size w4 w.heap.size [.slice (some ⟨bo,0,none⟩) t.outs.length (t.outs.length+3)] 27 w4
 have hz4:=hb4.size
 have ha35:Apart w.heap.size (w.heap.size+1) X (w4.setCells w.heap.size 27 [.slice (some ⟨bo,0,none⟩) t.outs.length (t.outs.length+3)]):=(Apart.of_below hb4 (Nat.le_refl _)).trans ha5
 generalize w4.setCells w.heap.size 27 [.slice (some ⟨bo,0,none⟩) t.outs.length (t.outs.length+3)]=Y at*
 have E2:Hid (LentAt Y N (w.heap.size+2) m1 (lentSl bi t.dflt.info.list.length) t.dflt.info.list∧LentAt Y N m1 m2 (lentSl ba t.dflt.ann.list.length) t.dflt.ann.list∧SLent3 Y N n m2 X.heap.size (lentSS bl t.dflt.inner.length) t.dflt.inner∧XLent Y X.heap.size Y.heap.size (.slice (some ⟨bo,0,none⟩) t.outs.length (t.outs.length+3)) t.outs∧X.heap.size≤Y.heap.size):=by
  obtain ⟨e1,e2,e3,e4⟩:=E1.out
  have l1:=e1.le
  have l2:=e2.le
  have l3:=e3.le
  rw [hz5]
  exact ⟨e1.apart ha35 (by omega) (.inr (by omega)),e2.apart ha35 (by omega) (.inr (by omega)),e3.apart ha35 (by omega) (.inr (by omega)),x4.apart ha5 (by omega) (.inr (by omega)),hz4⟩
 have HY:=Lib.hid hbx5
 have hld3:=load_texts (by have:=cells_caps hbx5.c1;rwa [Nat.zero_add] at this)
 have HC3:=Lib.hid (lentX_any (HXC.out.below (hbx5.below.mono hB)) (by have:=hbx5.size;omega) HS5.out)
 clear hbx4 hbx5 ha5 ha35 hz5 hz4 x4 hb4 HC2 HX HXC
 go_wp2_with (fail)
 clear hst2 hld3
 refine HC3.out.mono ?_
 rintro r w6 ⟨bc,rfl,x6,hb6⟩
 have hbx6:=HY.out.grow (hb6.mono (by have:=HY.out.size;omega))
 have hst3:=store_texts (a:=some ⟨bc,0,none⟩) (n:=t.caps.length) (c:=t.caps.length+3) ((cells_has hbx6.c1).there hbx6.f1 (o:=28) (n:=1) (by rw [TT.cells_len];omega))
 have hbx7:=hbx6.set (patch_caps (.slice (some ⟨bc,0,none⟩) t.caps.length (t.caps.length+3)) hbx6.c1)
 have ha7:=set_apart w6 w.heap.size 28 [.slice (some ⟨bc,0,none⟩) t.caps.length (t.caps.length+3)]
 have hz7:=setCells_size w6 w.heap.size [.slice (some ⟨bc,0,none⟩) t.caps.length (t.caps.length+3)] 28 w6
 have hz6:=hb6.size
 have ha57:Apart w.heap.size (w.heap.size+1) Y (w6.setCells w.heap.size 28 [.slice (some ⟨bc,0,none⟩) t.caps.length (t.caps.length+3)]):=(Apart.of_below hb6 (Nat.le_refl _)).trans ha7
 generalize w6.setCells w.heap.size 28 [.slice (some ⟨bc,0,none⟩) t.caps.length (t.caps.length+3)]=Z at*
 obtain ⟨s',hs'⟩:∃ s':TS,s'=⟨lentSl bi t.dflt.info.list.length,lentSl ba t.dflt.ann.list.length,lentSS bl t.dflt.inner.length,.slice (some ⟨bo,0,none⟩) t.outs.length (t.outs.length+3),.slice (some ⟨bc,0,none⟩) t.caps.length (t.caps.length+3)⟩:=⟨_,rfl⟩
 have h1:s'.one:=by rw [hs'];exact ⟨rfl,rfl,rfl,rfl,rfl⟩
 have hc7:Cells Z w.heap.size 0 (t.cells s'):=by rw [hs'];exact hbx7.c1
 have hld4:=load_term hc7
 have hst4:=store_term (t:=t) ((cells_has hbx7.c2).there hbx7.f2 (o:=0) (n:=29) (by rw [TT.cells_len];omega)) h1
 have hc8:Cells (Z.setCells (w.heap.size+1) 0 (t.cells s')) (w.heap.size+1) 0 (t.cells s'):=(cells_has hbx7.c2).setC (by rw [TT.cells_len,TT.cells_len];omega)
 have ha8:=set_apart Z (w.heap.size+1) 0 (t.cells s')
 have hz8:=setCells_size Z (w.heap.size+1) (t.cells s') 0 Z
 have hb8:=setCells_below (B:=w.heap.size) (Nat.le_succ _) (t.cells s') 0 Z hbx7.below
 have ha78:Apart w.heap.size (w.heap.size+2) Y (Z.setCells (w.heap.size+1) 0 (t.cells s')):=(ha57.wide (Nat.le_refl _) (by omega)).trans (ha8.wide (by omega) (Nat.le_refl _))
 have ha68:Apart w.heap.size (w.heap.size+2) w6 (Z.setCells (w.heap.size+1) 0 (t.cells s')):=(ha7.wide (Nat.le_refl _) (by omega)).trans (ha8.wide (by omega) (Nat.le_refl _))
 generalize Z.setCells (w.heap.size+1) 0 (t.cells s')=U at*
 have HU:=Lib.hid (loadVar_term hc8)
 have HAN:Hid (s'.one∧TLent U N n w.heap.size U.heap.size t s' m1 m2 X.heap.size Y.heap.size∧Below w.heap.size w U):=by
  obtain ⟨e1,e2,e3,e4,e5⟩:=E2.out
  have l1:=e1.le
  have l2:=e2.le
  have l3:=e3.le
  have l4:=e4.le
  have l5:=x6.le
  rw [hz8,hz7]
  refine ⟨h1,?_,hb8⟩
  rw [hs']
  exact ⟨HT.out.fine,(e1.apart ha78 (by omega) (.inr (by omega))).lo (by omega),e2.apart ha78 (by omega) (.inr (by omega)),e3.apart ha78 (by omega) (.inr (by omega)),e4.apart ha78 (by omega) (.inr (by omega)),x6.apart ha68 (by omega) (.inr (by omega))⟩
 clear hbx6 hbx7 ha7 ha57 hz7 hz6 x6 hb6 HC3 HY hs' h1 hc7 hc8 ha8 hz8 hb8 ha78 ha68
 go_wp2
 exact bodyPost_ret_by (results_mid rfl rfl HU.out) rfl ⟨s',m1,m2,X.heap.size,Y.heap.size,rfl,HAN.out.1,HAN.out.2.1,HAN.out.2.2⟩
end Go.Proofs.YtfjlnfogbfmpiaaGreatDoor.Va
namespace Go.Proofs.YtfjlnfogbfmpiaaGreatDoor.Va
open Go Go.RowKit Nu
attribute [-go_sem] Go.Instr.storeAt Go.Instr.loadAt
theorem rsameT_any {B N n:Nat} {a b:TT} {s s':TS} {w:World} (h:TAt B N n w a s) (h':TAt B N n w b s') (hB:B≤w.heap.size):
 Calls Tryz.prog 29 #[a.agg s,b.agg s'] w fun r w'=>r= .returned (.bool (eqTT a b))∧Below w.heap.size w w':=by
 obtain ⟨W1,hW1⟩:∃ W1,(w.alloc (.cells (a.cells s).toArray 33)).alloc (.cells (b.cells s').toArray 33)=W1:=⟨_,rfl⟩
 obtain ⟨hbx,hz1⟩:=TBox.new (x:=a.cells s) (y:=b.cells s') hW1
 have HT:=Lib.hid (h.below (hbx.below.mono hB))
 have HT':=Lib.hid (h'.below (hbx.below.mono hB))
 have hBW:B≤W1.heap.size:=by omega
 have HBX:Hid (∀ v,Below W1.heap.size W1 v→TBox w v (a.cells s) (b.cells s')∧TAt B N n v a s∧TAt B N n v b s'):=fun v hv=>⟨hbx.grow (hv.mono (by omega)),HT.out.below (hv.mono (by omega)),HT'.out.below (hv.mono (by omega))⟩
 obtain ⟨X,hX⟩:∃ X,eqS a.dflt b.dflt=X:=⟨_,rfl⟩
 obtain ⟨Y,hY⟩:∃ Y,eqX a.outs b.outs=Y:=⟨_,rfl⟩
 obtain ⟨Z,hZ⟩:∃ Z,eqX a.caps b.caps=Z:=⟨_,rfl⟩
 have HE:Hid (eqTT a b=((a.kind==b.kind)&&(a.address.toList==b.address.toList)&&(a.durable==b.durable)&&(a.expiry==b.expiry)&&(a.timeout==b.timeout)&&(a.dynamic==b.dynamic)&&(a.mode==b.mode)&&(a.filter.toList==b.filter.toList)&&X&&Y&&Z)):=by
  show eqTT a b=_
  rw [←hX,←hY,←hZ];rfl
 have HC1:Hid (Calls Tryz.prog 31 #[a.dflt.agg s.il s.al s.lv,b.dflt.agg s'.il s'.al s'.lv] W1 fun r w'=>r= .returned (.bool X)∧Below W1.heap.size W1 w'):=by
  rw [←hX]
  exact rsame_any HT.out.state HT'.out.state hBW
 have HC2:Hid (∀ v,Below W1.heap.size W1 v→Calls Tryz.prog 51 #[s.ov,s'.ov] v fun r w'=>r= .returned (.bool Y)∧Below v.heap.size v w'):=fun v hv=>by
  rw [←hY]
  exact rsameX_any (HBX.out v hv).2.1.outs (HBX.out v hv).2.2.outs
 have HC3:Hid (∀ v,Below W1.heap.size W1 v→Calls Tryz.prog 51 #[s.cv,s'.cv] v fun r w'=>r= .returned (.bool Z)∧Below v.heap.size v w'):=fun v hv=>by
  rw [←hZ]
  exact rsameX_any (HBX.out v hv).2.1.caps (HBX.out v hv).2.2.caps
 obtain ⟨R,hR⟩:∃ R,eqTT a b=R:=⟨_,rfl⟩
 rw [hR] at HE ⊢
 clear hR hX hY hZ
 have l1:(Instr.loadAt 30 (.pointer (some ⟨w.heap.size,8,none⟩))).run Tryz.prog W1= .ok (a.dflt.agg s.il s.al s.lv) W1:=load_state (o:=8) (by have:=cells_tstate hbx.c1;rwa [Nat.zero_add] at this)
 have l2:(Instr.loadAt 30 (.pointer (some ⟨w.heap.size+1,8,none⟩))).run Tryz.prog W1= .ok (b.dflt.agg s'.il s'.al s'.lv) W1:=load_state (o:=8) (by have:=cells_tstate hbx.c2;rwa [Nat.zero_add] at this)
 have HB1:=Lib.hid hbx.below
 clear h h' hbx HT HT'
 go_enter Tryz.func29,Tryz.ntmps29
 go_wp2_with (fail)
 clear hW1 l1 l2
 refine HC1.out.mono ?_
 rintro r w2 ⟨rfl,hb2⟩
 have B2:=Lib.hid hb2
 clear hb2 HC1
 have m1:=load_texts (by have:=cells_outs (HBX.out w2 B2.out).1.c1;rwa [Nat.zero_add] at this)
 have m2:=load_texts (by have:=cells_outs (HBX.out w2 B2.out).1.c2;rwa [Nat.zero_add] at this)
 go_wp2_with (fail)
 clear m1 m2
 refine (HC2.out w2 B2.out).mono ?_
 rintro r w3 ⟨rfl,hb3⟩
 have B3:=Lib.hid (B2.out.trans (hb3.mono B2.out.size))
 clear hb3
 have m1:=load_texts (by have:=cells_caps (HBX.out w3 B3.out).1.c1;rwa [Nat.zero_add] at this)
 have m2:=load_texts (by have:=cells_caps (HBX.out w3 B3.out).1.c2;rwa [Nat.zero_add] at this)
 go_wp2_with (fail)
 clear m1 m2
 refine (HC3.out w3 B3.out).mono ?_
 rintro r w4 ⟨rfl,hb4⟩
 have B4:=Lib.hid (B3.out.trans (hb4.mono B3.out.size))
 clear hb4
 have hbx:=(HBX.out w4 B4.out).1
 have q0:=load_int (cell_of hbx.c1 0 _ rfl)
 have r0:=load_int (cell_of hbx.c2 0 _ rfl)
 have q1:=load_str (cell_of hbx.c1 1 _ rfl)
 have r1:=load_str (cell_of hbx.c2 1 _ rfl)
 have q2:=load_int (cell_of hbx.c1 2 _ rfl)
 have r2:=load_int (cell_of hbx.c2 2 _ rfl)
 have q3:=load_int (cell_of hbx.c1 3 _ rfl)
 have r3:=load_int (cell_of hbx.c2 3 _ rfl)
 have q4:=load_int (cell_of hbx.c1 4 _ rfl)
 have r4:=load_int (cell_of hbx.c2 4 _ rfl)
 have q5:=load_bool (cell_of hbx.c1 5 _ rfl)
 have r5:=load_bool (cell_of hbx.c2 5 _ rfl)
 have q6:=load_int (cell_of hbx.c1 6 _ rfl)
 have r6:=load_int (cell_of hbx.c2 6 _ rfl)
 have q7:=load_str (cell_of hbx.c1 7 _ rfl)
 have r7:=load_str (cell_of hbx.c2 7 _ rfl)
 have HB4:=Lib.hid hbx.below
 clear hbx HBX HC2 HC3
 cases X with
 |false=>
  go_wp2
  go_ret
  exact ⟨ret_bool (by rw [HE.out];simp),HB4.out⟩
 |true=>
  cases Y with
  |false=>
   go_wp2
   go_ret
   exact ⟨ret_bool (by rw [HE.out];simp),HB4.out⟩
  |true=>
   cases Z with
   |false=>
    go_wp2
    go_ret
    exact ⟨ret_bool (by rw [HE.out];simp),HB4.out⟩
   |true=>
    go_wp2
    all_goals
     go_ret
     refine ⟨ret_bool ?_,HB4.out⟩
     rw [HE.out,Bool.eq_iff_iff]
     simp_all
theorem psameT_any {B N n:Nat} {a b:TT} {s s':TS} {w:World} (h:TAt B N n w a s) (h':TAt B N n w b s') (hB:B≤w.heap.size):
 Calls Tryz.prog 21 #[a.agg s,b.agg s'] w fun r w'=>r= .returned (.bool (eqTT a b))∧Below w.heap.size w w':=by
 obtain ⟨W1,hW1⟩:∃ W1,(w.alloc (.cells (a.cells s).toArray 33)).alloc (.cells (b.cells s').toArray 33)=W1:=⟨_,rfl⟩
 obtain ⟨hbx,hz1⟩:=TBox.new (x:=a.cells s) (y:=b.cells s') hW1
 have HT:=Lib.hid (h.below (hbx.below.mono hB))
 have HT':=Lib.hid (h'.below (hbx.below.mono hB))
 have hBW:B≤W1.heap.size:=by omega
 have HBX:Hid (∀ v,Below W1.heap.size W1 v→TBox w v (a.cells s) (b.cells s')∧TAt B N n v a s∧TAt B N n v b s'):=fun v hv=>⟨hbx.grow (hv.mono (by omega)),HT.out.below (hv.mono (by omega)),HT'.out.below (hv.mono (by omega))⟩
 obtain ⟨X,hX⟩:∃ X,eqS a.dflt b.dflt=X:=⟨_,rfl⟩
 obtain ⟨Y,hY⟩:∃ Y,eqX a.outs b.outs=Y:=⟨_,rfl⟩
 obtain ⟨Z,hZ⟩:∃ Z,eqX a.caps b.caps=Z:=⟨_,rfl⟩
 have HE:Hid (eqTT a b=((a.kind==b.kind)&&(a.address.toList==b.address.toList)&&(a.durable==b.durable)&&(a.expiry==b.expiry)&&(a.timeout==b.timeout)&&(a.dynamic==b.dynamic)&&(a.mode==b.mode)&&(a.filter.toList==b.filter.toList)&&X&&Y&&Z)):=by
  show eqTT a b=_
  rw [←hX,←hY,←hZ];rfl
 have HC1:Hid (Calls Tryz.prog 20 #[a.dflt.agg s.il s.al s.lv,b.dflt.agg s'.il s'.al s'.lv] W1 fun r w'=>r= .returned (.bool X)∧Below W1.heap.size W1 w'):=by
  rw [←hX]
  exact psame_any HT.out.state HT'.out.state hBW
 have HC2:Hid (∀ v,Below W1.heap.size W1 v→Calls Tryz.prog 47 #[s.ov,s'.ov] v fun r w'=>r= .returned (.bool Y)∧Below v.heap.size v w'):=fun v hv=>by
  rw [←hY]
  exact psameX_any (HBX.out v hv).2.1.outs (HBX.out v hv).2.2.outs
 have HC3:Hid (∀ v,Below W1.heap.size W1 v→Calls Tryz.prog 47 #[s.cv,s'.cv] v fun r w'=>r= .returned (.bool Z)∧Below v.heap.size v w'):=fun v hv=>by
  rw [←hZ]
  exact psameX_any (HBX.out v hv).2.1.caps (HBX.out v hv).2.2.caps
 obtain ⟨R,hR⟩:∃ R,eqTT a b=R:=⟨_,rfl⟩
 rw [hR] at HE ⊢
 clear hR hX hY hZ
 have l1:(Instr.loadAt 30 (.pointer (some ⟨w.heap.size,8,none⟩))).run Tryz.prog W1= .ok (a.dflt.agg s.il s.al s.lv) W1:=load_state (o:=8) (by have:=cells_tstate hbx.c1;rwa [Nat.zero_add] at this)
 have l2:(Instr.loadAt 30 (.pointer (some ⟨w.heap.size+1,8,none⟩))).run Tryz.prog W1= .ok (b.dflt.agg s'.il s'.al s'.lv) W1:=load_state (o:=8) (by have:=cells_tstate hbx.c2;rwa [Nat.zero_add] at this)
 have HB1:=Lib.hid hbx.below
 clear h h' hbx HT HT'
 go_enter Tryz.func21,Tryz.ntmps21
 go_wp2_with (fail)
 clear hW1 l1 l2
 refine HC1.out.mono ?_
 rintro r w2 ⟨rfl,hb2⟩
 have B2:=Lib.hid hb2
 clear hb2 HC1
 cases X with
 |false=>
  have HB4:=Lib.hid (HBX.out w2 B2.out).1.below
  go_wp2
  go_ret
  exact ⟨ret_bool (by rw [HE.out];simp),HB4.out⟩
 |true=>
  have m1:=load_texts (by have:=cells_outs (HBX.out w2 B2.out).1.c1;rwa [Nat.zero_add] at this)
  have m2:=load_texts (by have:=cells_outs (HBX.out w2 B2.out).1.c2;rwa [Nat.zero_add] at this)
  go_wp2_with (fail)
  clear m1 m2
  refine (HC2.out w2 B2.out).mono ?_
  rintro r w3 ⟨rfl,hb3⟩
  have B3:=Lib.hid (B2.out.trans (hb3.mono B2.out.size))
  clear hb3
  cases Y with
  |false=>
   have HB4:=Lib.hid (HBX.out w3 B3.out).1.below
   go_wp2
   go_ret
   exact ⟨ret_bool (by rw [HE.out];simp),HB4.out⟩
  |true=>
   have m1:=load_texts (by have:=cells_caps (HBX.out w3 B3.out).1.c1;rwa [Nat.zero_add] at this)
   have m2:=load_texts (by have:=cells_caps (HBX.out w3 B3.out).1.c2;rwa [Nat.zero_add] at this)
   go_wp2_with (fail)
   clear m1 m2
   refine (HC3.out w3 B3.out).mono ?_
   rintro r w4 ⟨rfl,hb4⟩
   have B4:=Lib.hid (B3.out.trans (hb4.mono B3.out.size))
   clear hb4
   cases Z with
   |false=>
    have HB4:=Lib.hid (HBX.out w4 B4.out).1.below
    go_wp2
    go_ret
    exact ⟨ret_bool (by rw [HE.out];simp),HB4.out⟩
   |true=>
    have hbx:=(HBX.out w4 B4.out).1
    have q0:=load_int (cell_of hbx.c1 0 _ rfl)
    have r0:=load_int (cell_of hbx.c2 0 _ rfl)
    have q1:=load_str (cell_of hbx.c1 1 _ rfl)
    have r1:=load_str (cell_of hbx.c2 1 _ rfl)
    have q2:=load_int (cell_of hbx.c1 2 _ rfl)
    have r2:=load_int (cell_of hbx.c2 2 _ rfl)
    have q3:=load_int (cell_of hbx.c1 3 _ rfl)
    have r3:=load_int (cell_of hbx.c2 3 _ rfl)
    have q4:=load_int (cell_of hbx.c1 4 _ rfl)
    have r4:=load_int (cell_of hbx.c2 4 _ rfl)
    have q5:=load_bool (cell_of hbx.c1 5 _ rfl)
    have r5:=load_bool (cell_of hbx.c2 5 _ rfl)
    have q6:=load_int (cell_of hbx.c1 6 _ rfl)
    have r6:=load_int (cell_of hbx.c2 6 _ rfl)
    have q7:=load_str (cell_of hbx.c1 7 _ rfl)
    have r7:=load_str (cell_of hbx.c2 7 _ rfl)
    have HB4:=Lib.hid hbx.below
    clear hbx HBX HC2 HC3
    go_wp2
    all_goals
     go_ret
     refine ⟨ret_bool ?_,HB4.out⟩
     rw [HE.out,Bool.eq_iff_iff]
     simp_all
theorem asLentT_any {B N n lo hi m1 m2 m3 m4:Nat} {t:TT} {s s0:TS} {w:World} (h:TLent w N n lo hi t s m1 m2 m3 m4) (h0:TAt B N n w t s0) (hB:B≤lo) (hhi:hi≤w.heap.size):
 Calls Tryz.prog 26 #[t.agg s,t.agg s0] w fun r w'=>r= .returned (.bool true)∧Apart lo hi w w':=by
 obtain ⟨l1,l2,l3,l4,l5⟩:=h.le
 obtain ⟨W1,hW1⟩:∃ W1,(w.alloc (.cells (t.cells s).toArray 33)).alloc (.cells (t.cells s0).toArray 33)=W1:=⟨_,rfl⟩
 obtain ⟨hbx,hz1⟩:=TBox.new (x:=t.cells s) (y:=t.cells s0) hW1
 have hl1:=h.below hhi (hbx.below.mono (Nat.le_refl _))
 have ho1:=h0.below (hbx.below.mono (by omega:B≤w.heap.size))
 have HC0:Hid (Calls Tryz.prog 29 #[t.agg s,t.agg s0] W1 fun r w'=>r= .returned (.bool true)∧Below W1.heap.size W1 w'):=by
  have:=rsameT_any (hl1.tat (B:=W1.heap.size) (by omega)) (ho1.up (by omega)) (Nat.le_refl _)
  rw [eqTT_refl] at this
  exact this
 have HK:Hid (∀ v,Apart lo hi W1 v→Cells v w.heap.size 0 (t.cells s)∧Cells v (w.heap.size+1) 0 (t.cells s0)∧Apart lo hi w v):=fun v hv=>⟨hbx.c1.apart hv (by omega) (.inr hhi),hbx.c2.apart hv (by omega) (.inr (by omega)),(Apart.of_below hbx.below (Nat.le_refl _)).trans hv⟩
 have HC1:Hid (∀ v,Below W1.heap.size W1 v→Calls Tryz.prog 24 #[t.dflt.agg s.il s.al s.lv,t.dflt.agg s0.il s0.al s0.lv] v fun r w'=>r= .returned (.bool true)∧Apart lo m3 v w'):=fun v hv=>by
  have a:=hl1.below (by omega) hv
  have b:=ho1.below (hv.mono (by omega))
  exact aslents n B N lo m3 t.dflt s.il s.al s.lv s0.il s0.al s0.lv m1 m2 v a.fine a.info a.ann a.inner b.info b.ann b.inner hB (by have:=hv.size;omega)
 have HC2:Hid (∀ v,Apart lo m3 W1 v→Calls Tryz.prog 50 #[s.ov,s0.ov] v fun r w'=>r= .returned (.bool true)∧Apart m3 m4 v w'):=fun v hv=>
  asLentX_any (hl1.outs.apart hv (by omega) (.inr (Nat.le_refl _))) (ho1.outs.below (hv.below hB (by omega))) (by omega) (by have:=hv.size;omega)
 have HC3:Hid (∀ v,Apart lo m4 W1 v→Calls Tryz.prog 50 #[s.cv,s0.cv] v fun r w'=>r= .returned (.bool true)∧Apart m4 hi v w'):=fun v hv=>
  asLentX_any (hl1.caps.apart hv (by omega) (.inr (Nat.le_refl _))) (ho1.caps.below (hv.below hB (by omega))) (by omega) (by have:=hv.size;omega)
 have q1:=load_term hbx.c1
 have r1:=load_term hbx.c2
 clear h h0 hbx hl1 ho1
 go_enter Tryz.func26,Tryz.ntmps26
 go_wp2_with (fail)
 clear hW1 q1 r1
 refine HC0.out.mono ?_
 rintro r w2 ⟨rfl,hb2⟩
 have B2:=Lib.hid hb2
 obtain ⟨c1,c2,_⟩:=HK.out w2 (Apart.of_below hb2 (Nat.le_refl _))
 have q1:(Instr.loadAt 30 (.pointer (some ⟨w.heap.size,8,none⟩))).run Tryz.prog w2= .ok (t.dflt.agg s.il s.al s.lv) w2:=load_state (o:=8) (by have:=cells_tstate c1;rwa [Nat.zero_add] at this)
 have r1:(Instr.loadAt 30 (.pointer (some ⟨w.heap.size+1,8,none⟩))).run Tryz.prog w2= .ok (t.dflt.agg s0.il s0.al s0.lv) w2:=load_state (o:=8) (by have:=cells_tstate c2;rwa [Nat.zero_add] at this)
 clear c1 c2 hb2 HC0
 go_wp2_with (fail)
 clear q1 r1
 refine (HC1.out w2 B2.out).mono ?_
 rintro r w3 ⟨rfl,ha3⟩
 have A3:=Lib.hid ((Apart.of_below (lo:=lo) (hi:=m3) B2.out (Nat.le_refl _)).trans ha3)
 obtain ⟨c1,c2,_⟩:=HK.out w3 (A3.out.wide (Nat.le_refl _) (by omega))
 have q1:=load_texts (by have:=cells_outs c1;rwa [Nat.zero_add] at this)
 have r1:=load_texts (by have:=cells_outs c2;rwa [Nat.zero_add] at this)
 clear c1 c2 ha3 B2 HC1
 go_wp2_with (fail)
 clear q1 r1
 refine (HC2.out w3 A3.out).mono ?_
 rintro r w4 ⟨rfl,ha4⟩
 have A4:=Lib.hid ((A3.out.wide (Nat.le_refl lo) (by omega:m3≤m4)).trans (ha4.wide (by omega) (Nat.le_refl _)))
 obtain ⟨c1,c2,_⟩:=HK.out w4 (A4.out.wide (Nat.le_refl _) (by omega))
 have q1:=load_texts (by have:=cells_caps c1;rwa [Nat.zero_add] at this)
 have r1:=load_texts (by have:=cells_caps c2;rwa [Nat.zero_add] at this)
 clear c1 c2 ha4 A3 HC2
 go_wp2_with (fail)
 clear q1 r1
 refine (HC3.out w4 A4.out).mono ?_
 rintro r w5 ⟨rfl,ha5⟩
 have A5:=Lib.hid (HK.out w5 ((A4.out.wide (Nat.le_refl lo) (by omega:m4≤hi)).trans (ha5.wide (by omega) (Nat.le_refl _)))).2.2
 clear ha5 A4 HC3 HK
 go_wp2
 go_ret
 exact ⟨rfl,A5.out⟩
abbrev uagg (u:ByteArray×ST) (il al lv:Value):Value:= .agg (ucells u il al lv).toArray
theorem load_uns {w:World} {b o:Nat} {u:ByteArray×ST} {il al lv:Value} (h:Cells w b o (ucells u il al lv)):(Instr.loadAt 50 (.pointer (some ⟨b,o,none⟩))).run Tryz.prog w= .ok (uagg u il al lv) w:=
 Go.run_loadAt_mid w b o 50 (ucells u il al lv) _ h Tryz.underlying50 rfl (by kernel_rfl)
theorem store_uns {w:World} {b o:Nat} {u:ByteArray×ST} {a1 a2 a3:Option Addr} {n1 c1 n2 c2 n3 c3:Nat} (h:w.there b o 20):(Instr.storeAt 50 (.pointer (some ⟨b,o,none⟩)) (uagg u (.slice a1 n1 c1) (.slice a2 n2 c2) (.slice a3 n3 c3))).run Tryz.prog w= .ok () (w.setCells b o (ucells u (.slice a1 n1 c1) (.slice a2 n2 c2) (.slice a3 n3 c3))):=
 Go.run_storeAt_mid w b o 50 (ucells u (.slice a1 n1 c1) (.slice a2 n2 c2) (.slice a3 n3 c3)).toArray h (by kernel_rfl) (by simp [ucells,ST.cells,Value.oneCell'])
theorem cells_ust {w:World} {b o:Nat} {u:ByteArray×ST} {il al lv:Value} (h:Cells w b o (ucells u il al lv)):Cells w b (o+1) (u.2.cells il al lv):=cells_right (cs:=[.string u.1]) h
theorem cells_utag {w:World} {b o:Nat} {u:ByteArray×ST} {il al lv:Value} (h:Cells w b o (ucells u il al lv)):w.cell? ⟨b,o,none⟩=some (.string u.1):=h 0 _ rfl
abbrev zero20:Array Value:=#[.string ⟨#[]⟩,.int .i64 0,.int .i64 0,.int .i64 0,.string ⟨#[]⟩,.string ⟨#[]⟩,.int .i64 0,.int .u64 0,.string ⟨#[]⟩,.slice none 0 0,.int .i64 0,.bool false,.bool false,.int .i64 0,.int .u64 0,.string ⟨#[]⟩,.slice none 0 0,.int .i64 0,.string ⟨#[]⟩,.slice none 0 0]
theorem box_uns (v:World) (u:ByteArray×ST) (a1 a2 a3:Option Addr) (n1 c1 n2 c2 n3 c3:Nat):∃ V1 V2,v.alloc (.cells zero20 50)=V1∧(Instr.storeAt 50 (.pointer (some ⟨v.heap.size,0,none⟩)) (uagg u (.slice a1 n1 c1) (.slice a2 n2 c2) (.slice a3 n3 c3))).run Tryz.prog V1= .ok () V2∧
 Cells V2 v.heap.size 0 (ucells u (.slice a1 n1 c1) (.slice a2 n2 c2) (.slice a3 n3 c3))∧Below v.heap.size v V2∧V2.heap.size=v.heap.size+1:=by
 have hz:Cells (v.alloc (.cells zero20 50)) v.heap.size 0 (ucells (⟨#[]⟩,zeroS 0) nilV nilV nilV):=cells_new (cs:=ucells (⟨#[]⟩,zeroS 0) nilV nilV nilV)
 have hh:=cells_has hz
 have hf:∀ j,(v.alloc (.cells zero20 50)).frozen? ⟨v.heap.size,j,none⟩=false:=fun j=>World.frozen?_alloc_new _ _ _ _
 refine ⟨_,_,rfl,store_uns (u:=u) (hh.there hf (o:=0) (n:=20) (Nat.le_refl _)),hh.setC (Nat.le_refl _),setCells_below (Nat.le_refl _) _ _ _ ((Below.refl _ _).alloc (Nat.le_refl _) _),?_⟩
 rw [setCells_size (v.alloc (.cells zero20 50)),heap_alloc_size]
def eqU1 (a b:ByteArray×ST):Bool:=(a.1.toList==b.1.toList)&&eqS a.2 b.2
theorem pclo_any {B N n:Nat} {u u':ByteArray×ST} {il al lv il' al' lv':Value} {w:World} (hf:u.2.Fine) (hf':u'.2.Fine) (h1:LAt B w N il u.2.info.list) (h2:LAt B w N al u.2.ann.list) (h3:SAt B N w n lv u.2.inner) (h1':LAt B w N il' u'.2.info.list) (h2':LAt B w N al' u'.2.ann.list) (h3':SAt B N w n lv' u'.2.inner) (hB:B≤w.heap.size):
 Calls Tryz.prog 19 #[uagg u il al lv,uagg u' il' al' lv'] w fun r w'=>r= .returned (.bool (eqU1 u u'))∧Below w.heap.size w w':=by
 obtain ⟨W1,hW1⟩:∃ W1,(w.alloc (.cells (ucells u il al lv).toArray 50)).alloc (.cells (ucells u' il' al' lv').toArray 50)=W1:=⟨_,rfl⟩
 obtain ⟨hbx,hz1⟩:=TBox.new (x:=ucells u il al lv) (y:=ucells u' il' al' lv') hW1
 have hb1:=hbx.below.mono hB
 obtain ⟨X,hX⟩:∃ X,eqS u.2 u'.2=X:=⟨_,rfl⟩
 have HC:Hid (Calls Tryz.prog 20 #[u.2.agg il al lv,u'.2.agg il' al' lv'] W1 fun r w'=>r= .returned (.bool X)∧Below W1.heap.size W1 w'):=by
  rw [←hX]
  exact psame_any (B:=B) (N:=N) (n:=n) ⟨hf,il,al,lv,rfl,h1.below hb1,h2.below hb1,h3.below hb1⟩ ⟨hf',il',al',lv',rfl,h1'.below hb1,h2'.below hb1,h3'.below hb1⟩ (by omega)
 have HE:Hid (eqU1 u u'=((u.1.toList==u'.1.toList)&&X)):=by show _=_;rw [←hX];rfl
 obtain ⟨R,hR⟩:∃ R,eqU1 u u'=R:=⟨_,rfl⟩
 rw [hR] at HE ⊢
 have l1:=load_str (cell_of hbx.c1 0 _ rfl)
 have l2:=load_str (cell_of hbx.c2 0 _ rfl)
 have l3:(Instr.loadAt 30 (.pointer (some ⟨w.heap.size,1,none⟩))).run Tryz.prog W1= .ok (u.2.agg il al lv) W1:=load_state (o:=1) (by have:=cells_ust hbx.c1;rwa [Nat.zero_add] at this)
 have l4:(Instr.loadAt 30 (.pointer (some ⟨w.heap.size+1,1,none⟩))).run Tryz.prog W1= .ok (u'.2.agg il' al' lv') W1:=load_state (o:=1) (by have:=cells_ust hbx.c2;rwa [Nat.zero_add] at this)
 have HB:=Lib.hid hbx.below
 clear hR hX hbx h1 h2 h3 h1' h2' h3' hf hf' hb1
 by_cases hs:u.1=u'.1
 ·have he:(u.1.toList==u'.1.toList)=true:=by simp [hs]
  have HX:Hid (R=X):=by show R=_;rw [HE.out,he,Bool.true_and]
  clear HE hs
  go_enter Tryz.func19,Tryz.ntmps19
  go_wp2_with (go_at_call 20;refine HC.out.mono ?_;rintro r w2 ⟨rfl,hb2⟩)
  go_ret
  exact ⟨ret_bool HX.out.symm,HB.out.trans (hb2.mono (by omega))⟩
 ·have he:(u.1.toList==u'.1.toList)=false:=by
   have:¬u.1.toList=u'.1.toList:=fun h=>hs (toList_inj h)
   simp [this]
  have HX:Hid (R=false):=by show R=_;rw [HE.out,he,Bool.false_and]
  clear HE hs
  go_enter Tryz.func19,Tryz.ntmps19
  go_wp2
  go_ret
  exact ⟨ret_bool HX.out.symm,HB.out⟩
theorem eqU_step1 {l r:List (ByteArray×ST)} {k:Nat} {a b:ByteArray×ST} (ha:l[k]? =some a) (hb:r[k]? =some b):eqU (l.drop k) (r.drop k)=(eqU1 a b&&eqU (l.drop (k+1)) (r.drop (k+1))):=eqU_step ha hb
abbrev sameU:Value:= .func (.func 19) #[] #[]
theorem peqU_any {B N n:Nat} {ss ss':List (ByteArray×ST)} {lv lv':Value} {w:World} (hl:UAt B N n w lv ss) (hl':UAt B N n w lv' ss') (hB:B≤w.heap.size):
 Calls Tryz.prog 18 #[lv,lv',sameU] w fun r w'=>r= .returned (.bool (eqU ss ss'))∧Below w.heap.size w w':=by
 have HL:=Lib.hid hl
 have HL':=Lib.hid hl'
 obtain ⟨p,c,rfl⟩:=hl.slice
 obtain ⟨p',c',rfl⟩:=hl'.slice
 have hlen:ss.length≤9223372036854775807:=by obtain ⟨_,_,_,h,_⟩:=hl;exact h
 have hlen':ss'.length≤9223372036854775807:=by obtain ⟨_,_,_,h,_⟩:=hl';exact h
 clear hl hl'
 by_cases hll:ss.length=ss'.length
 ·obtain ⟨m,hm⟩:∃ m,ss.length=m:=⟨_,rfl⟩
  have hm':ss'.length=m:=by omega
  have Hm:=Lib.hid hm
  have Hm':=Lib.hid hm'
  rw [hm] at hlen HL ⊢
  rw [hm'] at HL' ⊢
  clear hm hm' hll hlen'
  go_enter Tryz.func18,Tryz.ntmps18
  go_wp2
  go_loopw [17] (fun i wr=>∃ (j:Nat),i= .int .i64 j∧j≤m∧Hid (eqU (ss.drop j) (ss'.drop j)=eqU ss ss')∧Hid (Below w.heap.size w wr)) (fun i _=>m-(intOf i).toNat)
  case atStart=>exact ⟨0,rfl,Nat.zero_le _,rfl,Below.refl _ _⟩
  case round=>
   obtain ⟨j,rfl,hj,HQ,HG⟩:=hrel
   by_cases hlt:j<m
   ·obtain ⟨t,ht⟩:∃ t,ss[j]? =some t:=⟨_,List.getElem?_eq_getElem (by rw [Hm.out];exact hlt)⟩
    obtain ⟨t',ht'⟩:∃ t,ss'[j]? =some t:=⟨_,List.getElem?_eq_getElem (by rw [Hm'.out];exact hlt)⟩
    obtain ⟨q,d,hq,hmx,hel⟩:=HL.out
    obtain ⟨q',d',hq',hmx',hel'⟩:=HL'.out
    obtain ⟨b,off,il,al,lv,hp,hbB,hc,tf,hi,ha,hl⟩:=hel j t ht
    obtain ⟨b',off',il',al',lv',hp',hbB',hc',tf',hi',ha',hl'⟩:=hel' j t' ht'
    subst hp hp'
    rw [Hm.out] at hq
    rw [Hm'.out] at hq'
    cases hq
    cases hq'
    obtain ⟨pi,ci,rfl⟩:=hi.slice
    obtain ⟨pa,ca,rfl⟩:=ha.slice
    obtain ⟨pl,cl,rfl⟩:=hl.slice
    obtain ⟨pi',ci',rfl⟩:=hi'.slice
    obtain ⟨pa',ca',rfl⟩:=ha'.slice
    obtain ⟨pl',cl',rfl⟩:=hl'.slice
    have hbw:Below B w wr:=HG.out.mono hB
    have hsz:=HG.out.size
    have hst:=Lib.hid (eqU_step1 ht ht')
    have hi0:(0:Int)≤(j:Int):=by omega
    have hi1:(j:Int)<(m:Int):=by omega
    have l1:=load_uns (hc.below hbw hbB)
    obtain ⟨V1,V2,hV1,hs1,k1,kb1,kz1⟩:=box_uns wr t pi pa pl t.2.info.list.length ci t.2.ann.list.length ca t.2.inner.length cl
    have l2:=load_uns (w:=V2) (hc'.below (hbw.trans (kb1.mono (by omega))) hbB')
    obtain ⟨V3,V4,hV3,hs2,k2,kb2,kz2⟩:=box_uns V2 t' pi' pa' pl' t'.2.info.list.length ci' t'.2.ann.list.length ca' t'.2.inner.length cl'
    have l3:=load_uns (w:=V4) (k1.below kb2 (by omega))
    have l4:=load_uns (w:=V4) k2
    have hb4:Below wr.heap.size wr V4:=kb1.trans (kb2.mono (by omega))
    obtain ⟨X,hX⟩:∃ X,eqU1 t t'=X:=⟨_,rfl⟩
    rw [hX] at hst
    have HC:Hid (Calls Tryz.prog 19 #[uagg t (.slice pi t.2.info.list.length ci) (.slice pa t.2.ann.list.length ca) (.slice pl t.2.inner.length cl),uagg t' (.slice pi' t'.2.info.list.length ci') (.slice pa' t'.2.ann.list.length ca') (.slice pl' t'.2.inner.length cl')] V4 fun r w'=>r= .returned (.bool X)∧Below V4.heap.size V4 w'):=by
     have hb:Below B w V4:=hbw.trans (hb4.mono (by omega))
     rw [←hX]
     exact pclo_any (B:=B) (N:=N) (n:=n) tf tf' (hi.below hb) (ha.below hb) (hl.below hb) (hi'.below hb) (ha'.below hb) (hl'.below hb) (by have:=hb4.size;omega)
    have HB4:=Lib.hid (HG.out.trans (hb4.mono hsz))
    have hz4:=Lib.hid hb4.size
    clear hel hel' hc hc' hi ha hl hi' ha' hl' ht ht' tf tf' hX hbw k1 kb1 kz1 k2 kb2 kz2 hb4
    cases X with
    |true=>
     have hst2:Hid (eqU (ss.drop (j+1)) (ss'.drop (j+1))=eqU ss ss'):=by
      show eqU _ _=_;rw [←HQ.out,hst.out,Bool.true_and]
     clear hst
     go_wp2_with (go_at_call 19;refine HC.out.mono ?_;rintro r w2 ⟨rfl,hb5⟩)
     go_roundw
     case rel=>exact ⟨j+1,by go_num,by omega,hst2.out,HB4.out.trans (hb5.mono HB4.out.size)⟩
     case measure=>simp [intOf];omega
    |false=>
     have hst2:Hid (false=eqU ss ss'):=by
      show false=_;rw [←HQ.out,hst.out,Bool.false_and]
     clear hst
     go_wp2_with (go_at_call 19;refine HC.out.mono ?_;rintro r w2 ⟨rfl,hb5⟩)
     go_ret
     exact ⟨ret_bool hst2.out,HB4.out.trans (hb5.mono HB4.out.size)⟩
   ·obtain rfl:j=m:=by omega
    go_wp2
    go_ret
    exact ⟨ret_bool (by rw [←HQ.out,←Hm.out,eqU_end (by rw [Hm.out,Hm'.out])]),HG.out⟩
 ·have HE:=Lib.hid (eqU_len hll)
  have hb:((ss.length:Int)!=(ss'.length:Int))=true:=by simp;omega
  have Hll:=Lib.hid hll
  clear hll
  go_enter Tryz.func18,Tryz.ntmps18
  go_wp2
  go_ret
  exact ⟨ret_bool HE.out.symm,Below.refl _ _⟩
theorem belowN {B:Nat} {a w:World} (h:Below B a w) (q:Nat):Below B a (w.drewN q):=⟨h.os,h.tape,h.output,h.size,h.block⟩
theorem rsameU_any {B N n:Nat} {ss ss':List (ByteArray×ST)} {lv lv':Value} {w:World} (hl:UAt B N n w lv ss) (hl':UAt B N n w lv' ss') (hB:B≤w.heap.size):
 Calls Tryz.prog 30 #[lv,lv'] w fun r w'=>r= .returned (.bool (eqU ss ss'))∧Below w.heap.size w w':=by
 have HL:=Lib.hid hl
 have HL':=Lib.hid hl'
 obtain ⟨p,c,rfl⟩:=hl.slice
 obtain ⟨p',c',rfl⟩:=hl'.slice
 have hlen:ss.length≤9223372036854775807:=by obtain ⟨_,_,_,h,_⟩:=hl;exact h
 have hlen':ss'.length≤9223372036854775807:=by obtain ⟨_,_,_,h,_⟩:=hl';exact h
 clear hl hl'
 by_cases hll:ss.length=ss'.length
 ·obtain ⟨m,hm⟩:∃ m,ss.length=m:=⟨_,rfl⟩
  have hm':ss'.length=m:=by omega
  have Hm:=Lib.hid hm
  have Hm':=Lib.hid hm'
  rw [hm] at hlen HL ⊢
  rw [hm'] at HL' ⊢
  clear hm hm' hll hlen'
  go_enter Tryz.func30,Tryz.ntmps30
  go_wp2
  go_loopw [5] (fun i wr=>∃ (j:Nat),i= .int .i64 j∧j≤m∧Hid (eqU (ss.drop j) (ss'.drop j)=eqU ss ss')∧Hid (Below w.heap.size w wr)) (fun i _=>m-(intOf i).toNat)
  case atStart=>exact ⟨0,rfl,Nat.zero_le _,rfl,Below.refl _ _⟩
  case round=>
   obtain ⟨j,rfl,hj,HQ,HG⟩:=hrel
   by_cases hlt:j<m
   ·obtain ⟨u,hu⟩:∃ t,ss[j]? =some t:=⟨_,List.getElem?_eq_getElem (by rw [Hm.out];exact hlt)⟩
    obtain ⟨u',hu'⟩:∃ t,ss'[j]? =some t:=⟨_,List.getElem?_eq_getElem (by rw [Hm'.out];exact hlt)⟩
    obtain ⟨q,d,hq,hmx,hel⟩:=HL.out
    obtain ⟨q',d',hq',hmx',hel'⟩:=HL'.out
    obtain ⟨b,off,il,al,lv,hp,hbB,hc,tf,hi,ha,hl⟩:=hel j u hu
    obtain ⟨b',off',il',al',lv',hp',hbB',hc',tf',hi',ha',hl'⟩:=hel' j u' hu'
    subst hp hp'
    rw [Hm.out] at hq
    rw [Hm'.out] at hq'
    cases hq
    cases hq'
    have hbw3:Below w.heap.size w wr:=HG.out
    have hsz:=HG.out.size
    have hbw:Below B w wr:=hbw3.mono hB
    have hst:=Lib.hid (eqU_step1 hu hu')
    have hi0:(0:Int)≤(j:Int):=by omega
    have hi1:(j:Int)<(m:Int):=by omega
    have hbs:b<wr.heap.size:=by omega
    have hbs':b'<wr.heap.size:=by omega
    obtain ⟨X,hX⟩:∃ X,eqS u.2 u'.2=X:=⟨_,rfl⟩
    have hE:Hid (eqU1 u u'=((u.1.toList==u'.1.toList)&&X)):=by show _=_;rw [←hX];rfl
    have HC:Hid (∀ w',Below wr.heap.size wr w'→Calls Tryz.prog 31 #[u.2.agg il al lv,u'.2.agg il' al' lv'] w' fun r w''=>r= .returned (.bool X)∧Below wr.heap.size w' w''):=fun w' h=>by
     have hb:Below B w w':=hbw.trans (h.mono (by omega))
     rw [←hX]
     exact (rsame_any (B:=B) (N:=N) (n:=n) ⟨tf,il,al,lv,rfl,hi.below hb,ha.below hb,hl.below hb⟩ ⟨tf',il',al',lv',rfl,hi'.below hb,ha'.below hb,hl'.below hb⟩ (by have:=h.size;omega)).mono fun r w'' ⟨x,y⟩=>⟨x,y.mono h.size⟩
    have HALL:Hid (∀ w',Below wr.heap.size wr w'→(Below wr.heap.size wr w'∧(Instr.loadAt 30 (.pointer (some ⟨b,off+j*20+1,none⟩))).run Tryz.prog w'= .ok (u.2.agg il al lv) w'∧(Instr.loadAt 30 (.pointer (some ⟨b',off'+j*20+1,none⟩))).run Tryz.prog w'= .ok (u'.2.agg il' al' lv') w')):=fun w' h=>
     ⟨h,load_state (cells_ust ((hc.below hbw hbB).below h hbs)),load_state (cells_ust ((hc'.below hbw hbB').below h hbs'))⟩
    have HTAG:Hid (∀ v,Below wr.heap.size wr v→((Instr.loadAt 9 (.pointer (some ⟨b,off+j*20,none⟩))).run Tryz.prog v= .ok (.string u.1) v∧(Instr.loadAt 9 (.pointer (some ⟨b',off'+j*20,none⟩))).run Tryz.prog v= .ok (.string u'.1) v)):=fun v h=>
     ⟨load_str (cells_utag ((hc.below hbw hbB).below h hbs)),load_str (cells_utag ((hc'.below hbw hbB').below h hbs'))⟩
    clear hel hel' hc hc' hi ha hl hi' ha' hl' hu hu' tf tf' hX hbw
    go_wp2
    go_region_held3 (fun w'=>Below wr.heap.size wr w'∧(Instr.loadAt 30 (.pointer (some ⟨b,off+j*20+1,none⟩))).run Tryz.prog w'= .ok (u.2.agg il al lv) w'∧(Instr.loadAt 30 (.pointer (some ⟨b',off'+j*20+1,none⟩))).run Tryz.prog w'= .ok (u'.2.agg il' al' lv') w')
     (first
       |with_reducible exact HALL.out _ ((Below.refl _ _).drew.trans hb5.out)
       |with_reducible exact HALL.out _ (Below.refl _ _).drew)
     ((go_at_call 31;refine (HC.out _ (Below.refl _ _).drew).mono ?_;rintro r w4 ⟨rfl,hb5'⟩;have hb5:=Lib.hid hb5';clear hb5'))
    have HW4:=Lib.hid ((Below.refl _ _).drew.trans hb5.out)
    have HG4:=Lib.hid (HG.out.trans (HW4.out.mono hsz))
    clear HALL HC hb5
    cases X with
    |false=>
     have hE2:Hid (eqU1 u u'=false):=by show _=_;rw [hE.out,Bool.and_false]
     clear hE
     go_wp2
     go_quiet (fail)
     go_wp2
     go_ret
     exact ⟨ret_bool (by rw [←HQ.out,hst.out,hE2.out,Bool.false_and]),belowN HG4.out _⟩
    |true=>
     have hE2:Hid (eqU1 u u'=(u.1.toList==u'.1.toList)):=by show _=_;rw [hE.out,Bool.and_true]
     clear hE
     have t1:∀ q,(Instr.loadAt 9 (.pointer (some ⟨b,off+j*20,none⟩))).run Tryz.prog (w4.drewN q)= .ok (.string u.1) (w4.drewN q):=fun q=>(HTAG.out _ (belowN HW4.out q)).1
     have t2:∀ q,(Instr.loadAt 9 (.pointer (some ⟨b',off'+j*20,none⟩))).run Tryz.prog (w4.drewN q)= .ok (.string u'.1) (w4.drewN q):=fun q=>(HTAG.out _ (belowN HW4.out q)).2
     clear HTAG HW4
     go_wp2
     by_cases hs:u.1=u'.1
     ·have he:(u.1.toList==u'.1.toList)=true:=by simp [hs]
      simp only [←hs] at t2
      have HX:Hid (eqU1 u u'=true):=by show _=_;rw [hE2.out,he]
      go_quiet (fail)
      clear hs hE2 he t1 t2
      go_wp2
      go_roundw
      case rel=>exact ⟨j+1,by go_num,by omega,by rw [←HQ.out,hst.out,HX.out,Bool.true_and];exact rfl,belowN HG4.out _⟩
      case measure=>simp [intOf];omega
     ·have he:(u.1.toList==u'.1.toList)=false:=by
       have:¬u.1.toList=u'.1.toList:=fun h=>hs (toList_inj h)
       simp [this]
      have HX:Hid (eqU1 u u'=false):=by show _=_;rw [hE2.out,he]
      clear hE2
      go_quiet (fail)
      go_wp2
      go_ret
      exact ⟨ret_bool (by rw [←HQ.out,hst.out,HX.out,Bool.false_and]),belowN HG4.out _⟩
   ·obtain rfl:j=m:=by omega
    go_wp2
    go_ret
    exact ⟨ret_bool (by rw [←HQ.out,←Hm.out,eqU_end (by rw [Hm.out,Hm'.out])]),HG.out⟩
 ·have HE:=Lib.hid (eqU_len hll)
  have hb:((ss.length:Int)!=(ss'.length:Int))=true:=by simp;omega
  have Hll:=Lib.hid hll
  clear hll
  go_enter Tryz.func30,Tryz.ntmps30
  go_wp2
  go_ret
  exact ⟨ret_bool HE.out.symm,Below.refl _ _⟩
end Go.Proofs.YtfjlnfogbfmpiaaGreatDoor.Va
