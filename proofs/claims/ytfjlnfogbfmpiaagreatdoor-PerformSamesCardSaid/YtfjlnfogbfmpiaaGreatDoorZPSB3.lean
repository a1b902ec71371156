/-
  The texts TD TE TF TI TJ TO of this claim, one behind the other.
-/
import Derived.Test.YtfjlnfogbfmpiaaGreatDoorZPSB2
import Derived.Laws.StructEq
import Derived.ChangeKeysEq
import Derived.Test.YtfjlnfogbfmpiaaGreatDoorZPSB0
import Derived.Test.YtfjlnfogbfmpiaaGreatDoorZPSA0
import Derived.SizedLaws
set_option maxHeartbeats 40000000
set_option maxRecDepth 100000
noncomputable section
namespace Go.Proofs.YtfjlnfogbfmpiaaGreatDoor.Va
open Go Go.RowKit Nu
attribute [-go_sem] Go.Instr.storeAt Go.Instr.loadAt
theorem load_perf {w:World} {b o:Nat} {p:PT} {s:PS} (h:Cells w b o (p.cells s)):(Instr.loadAt 36 (.pointer (some ⟨b,o,none⟩))).run Tryz.prog w= .ok (p.agg s) w:=
 Go.run_loadAt_mid w b o 36 (p.cells s) _ h Tryz.underlying36 rfl (by kernel_rfl)
theorem loadVar_perf {w:World} {b o:Nat} {p:PT} {s:PS} (h:Cells w b o (p.cells s)):(loadVar 36 ⟨b,o,none⟩).run Tryz.prog w= .ok (p.agg s) w:=
 Go.run_loadVar_mid w b o 36 (p.cells s) _ h Tryz.underlying36 rfl (by kernel_rfl)
theorem cells_pprops {w:World} {b o:Nat} {p:PT} {s:PS} (h:Cells w b o (p.cells s)):Cells w b (o+6) (p.props.cells s.pl):=cells_left (cells_right (cs:=pA p) h)
theorem cells_p2 {w:World} {b o:Nat} {p:PT} {s:PS} (h:Cells w b o (p.cells s)):Cells w b (o+22) (p.src.cells s.ss++(p.tgt.cells s.ts++([s.uv]++(pC p++(p.state.cells s.xil s.xal s.xlv++(pD p++([.string p.cond,.string p.text]++p.info.cells s.fl))))))):=
 cells_right (cs:=pB p) (cells_right (cs:=p.props.cells s.pl) (cells_right (cs:=pA p) h))
theorem cells_psrc {w:World} {b o:Nat} {p:PT} {s:PS} (h:Cells w b o (p.cells s)):Cells w b (o+22) (p.src.cells s.ss):=cells_left (cells_p2 h)
theorem cells_p3 {w:World} {b o:Nat} {p:PT} {s:PS} (h:Cells w b o (p.cells s)):Cells w b (o+51) (p.tgt.cells s.ts++([s.uv]++(pC p++(p.state.cells s.xil s.xal s.xlv++(pD p++([.string p.cond,.string p.text]++p.info.cells s.fl)))))):=
 cells_right (cs:=p.src.cells s.ss) (cells_p2 h)
theorem cells_ptgt {w:World} {b o:Nat} {p:PT} {s:PS} (h:Cells w b o (p.cells s)):Cells w b (o+51) (p.tgt.cells s.ts):=cells_left (cells_p3 h)
theorem cells_p4 {w:World} {b o:Nat} {p:PT} {s:PS} (h:Cells w b o (p.cells s)):Cells w b (o+99) (p.state.cells s.xil s.xal s.xlv++(pD p++([.string p.cond,.string p.text]++p.info.cells s.fl))):=
 cells_right (cs:=pC p) (cells_right (cs:=[s.uv]) (cells_right (cs:=p.tgt.cells s.ts) (cells_p3 h)))
theorem cells_puns {w:World} {b o:Nat} {p:PT} {s:PS} (h:Cells w b o (p.cells s)):w.cell? ⟨b,o+80,none⟩=some s.uv:=cells_left (cells_right (cs:=p.tgt.cells s.ts) (cells_p3 h)) 0 _ rfl
theorem cells_pstate {w:World} {b o:Nat} {p:PT} {s:PS} (h:Cells w b o (p.cells s)):Cells w b (o+99) (p.state.cells s.xil s.xal s.xlv):=cells_left (cells_p4 h)
theorem cells_pfault {w:World} {b o:Nat} {p:PT} {s:PS} (h:Cells w b o (p.cells s)):Cells w b (o+121) (fcells p.cond p.text p.info s.fl):=cells_right (cs:=pD p) (cells_right (cs:=p.state.cells s.xil s.xal s.xlv) (cells_p4 h))
theorem cells_pinfo {w:World} {b o:Nat} {p:PT} {s:PS} (h:Cells w b o (p.cells s)):Cells w b (o+123) (p.info.cells s.fl):=cells_right (cs:=[.string p.cond,.string p.text]) (cells_pfault h)
abbrev zflat:Array Value:=#[.string ⟨#[]⟩,.string ⟨#[]⟩,.string ⟨#[]⟩,.string ⟨#[]⟩,.int .i64 0,.int .i64 0,.int .i64 0,.int .i64 0,.int .i64 0,.int .i64 0,.int .i64 0,.int .i64 0,.int .i64 0,.int .i64 0,.int .i64 0,.int .i64 0,.int .i64 0,.int .i64 0,.int .i64 0,.int .i64 0,.int .i64 0,.int .i64 0,.int .i64 0,.int .i64 0,.int .i64 0,.int .i64 0,.bool false,.bool false,.bool false,.bool false,.bool false,.bool false,.bool false,.bool false,.bool false,.bool false,.bool false,.bool false]
theorem store_flat {w:World} {b:Nat} {p:PT} (h:w.there b 0 38):(Instr.storeAt 61 (.pointer (some ⟨b,0,none⟩)) (.agg #[.string p.s1,.string p.s2,.string p.s17,.string p.s91,.int .i64 p.i0,.int .i64 p.i3,.int .i64 p.i4,.int .i64 p.i5,.int .i64 p.i11,.int .i64 p.i12,.int .i64 p.i13,.int .i64 p.i14,.int .i64 p.i15,.int .i64 p.i16,.int .i64 p.i18,.int .i64 p.i20,.int .i64 p.i21,.int .i64 p.i82,.int .i64 p.i83,.int .i64 p.i84,.int .i64 p.i85,.int .i64 p.i86,.int .i64 p.i89,.int .i64 p.i92,.int .i64 p.i118,.int .i64 p.i119,.bool p.b19,.bool p.b81,.bool p.b87,.bool p.b88,.bool p.b90,.bool p.b93,.bool p.b94,.bool p.b95,.bool p.b96,.bool p.b97,.bool p.b98,.bool p.b120])).run Tryz.prog w= .ok () (w.setCells b 0 (flatP p)):=
 Go.run_storeAt_mid w b 0 61 (flatP p).toArray h (by kernel_rfl) (by simp [flatP,Value.oneCell'])
theorem loadVar_flat {w:World} {b:Nat} {p:PT} (h:Cells w b 0 (flatP p)):(loadVar 61 ⟨b,0,none⟩).run Tryz.prog w= .ok (.agg (flatP p).toArray) w:=
 Go.run_loadVar_mid w b 0 61 (flatP p) _ h Tryz.underlying61 rfl (by kernel_rfl)
theorem wp_cells {P:Program} {o:Oper} {a:Act} {w:World} {K:Act→World→Prop} {Q:Exit→Act→World→Prop} (t:TypeId) (parts:Array (Nat×Operand)) (cells:Array Value) (ho:o.op= .build t parts)
 (hf:P.built t (parts.map fun (i,x)=>(i,a.eval x)).toList=some cells) (h:K (a.put o.dst (.agg cells)) w):o.wp P a w K Q:=
 wp_build t parts ho (by rw [hf];rfl) (by rw [hf];exact h)
def flat0:PT:=⟨0,⟨#[]⟩,⟨#[]⟩,0,0,0,.mk 0 0 ⟨#[]⟩ 0 [],0,0,0,0,0,0,⟨#[]⟩,0,false,0,0,zeroTT,zeroTT,[],false,0,0,0,0,0,false,false,0,false,⟨#[]⟩,0,false,false,false,false,false,false,zeroS 0,0,0,false,⟨#[]⟩,⟨#[]⟩,.mk 0 0 ⟨#[]⟩ 0 []⟩
theorem box_flat (v:World) (p:PT):∃ V1 V2,v.alloc (.cells zflat 61)=V1∧(Instr.storeAt 61 (.pointer (some ⟨v.heap.size,0,none⟩)) (.agg #[.string p.s1,.string p.s2,.string p.s17,.string p.s91,.int .i64 p.i0,.int .i64 p.i3,.int .i64 p.i4,.int .i64 p.i5,.int .i64 p.i11,.int .i64 p.i12,.int .i64 p.i13,.int .i64 p.i14,.int .i64 p.i15,.int .i64 p.i16,.int .i64 p.i18,.int .i64 p.i20,.int .i64 p.i21,.int .i64 p.i82,.int .i64 p.i83,.int .i64 p.i84,.int .i64 p.i85,.int .i64 p.i86,.int .i64 p.i89,.int .i64 p.i92,.int .i64 p.i118,.int .i64 p.i119,.bool p.b19,.bool p.b81,.bool p.b87,.bool p.b88,.bool p.b90,.bool p.b93,.bool p.b94,.bool p.b95,.bool p.b96,.bool p.b97,.bool p.b98,.bool p.b120])).run Tryz.prog V1= .ok () V2∧
 (loadVar 61 ⟨v.heap.size,0,none⟩).run Tryz.prog V2= .ok (.agg (flatP p).toArray) V2∧Below v.heap.size v V2∧(∀ b o (cs:List Value),b<v.heap.size→Cells v b o cs→Cells V1 b o cs):=by
 have hz:Cells (v.alloc (.cells zflat 61)) v.heap.size 0 (flatP flat0):=cells_new (cs:=flatP flat0)
 have hh:=cells_has hz
 have hf:∀ j,(v.alloc (.cells zflat 61)).frozen? ⟨v.heap.size,j,none⟩=false:=fun j=>World.frozen?_alloc_new _ _ _ _
 exact ⟨_,_,rfl,store_flat (p:=p) (hh.there hf (o:=0) (n:=38) (Nat.le_refl _)),loadVar_flat (hh.setC (Nat.le_refl _)),setCells_below (Nat.le_refl _) _ _ _ ((Below.refl _ _).alloc (Nat.le_refl _) _),fun b o cs hb hc=>hc.below ((Below.refl _ _).alloc (Nat.le_refl _) _) hb⟩
theorem plain_any (p:PT) (s:PS) (w:World):Calls Tryz.prog 23 #[p.agg s] w fun r w'=>r= .returned (.agg (flatP p).toArray)∧Below w.heap.size w w':=by
 obtain ⟨W1,hW1⟩:∃ W1,w.alloc (.cells (p.cells s).toArray 36)=W1:=⟨_,rfl⟩
 have hc0:Cells W1 w.heap.size 0 (p.cells s):=by rw [←hW1];exact cells_new (cs:=p.cells s)
 have hz1:W1.heap.size=w.heap.size+1:=by rw [←hW1,heap_alloc_size]
 have hb1:Below w.heap.size w W1:=by rw [←hW1];exact (Below.refl _ _).alloc (Nat.le_refl _) _
 obtain ⟨V1,V2,hV1,hs1,hl1,hb2,hkeep⟩:=box_flat W1 p
 have hc:=hkeep _ _ _ (by omega) hc0
 have HB:=Lib.hid (hb1.trans (hb2.mono (by omega)))
 rw [hz1] at hs1 hl1
 have l0:=load_str (cell_of hc 1 (.string p.s1) rfl)
 have l1:=load_str (cell_of hc 2 (.string p.s2) rfl)
 have l2:=load_str (cell_of hc 17 (.string p.s17) rfl)
 have l3:=load_str (cell_of hc 91 (.string p.s91) rfl)
 have l4:=load_int (cell_of hc 0 (.int .i64 p.i0) rfl)
 have l5:=load_int (cell_of hc 3 (.int .i64 p.i3) rfl)
 have l6:=load_int (cell_of hc 4 (.int .i64 p.i4) rfl)
 have l7:=load_int (cell_of hc 5 (.int .i64 p.i5) rfl)
 have l8:=load_int (cell_of hc 11 (.int .i64 p.i11) rfl)
 have l9:=load_int (cell_of hc 12 (.int .i64 p.i12) rfl)
 have l10:=load_int (cell_of hc 13 (.int .i64 p.i13) rfl)
 have l11:=load_int (cell_of hc 14 (.int .i64 p.i14) rfl)
 have l12:=load_int (cell_of hc 15 (.int .i64 p.i15) rfl)
 have l13:=load_int (cell_of hc 16 (.int .i64 p.i16) rfl)
 have l14:=load_int (cell_of hc 18 (.int .i64 p.i18) rfl)
 have l15:=load_int (cell_of hc 20 (.int .i64 p.i20) rfl)
 have l16:=load_int (cell_of hc 21 (.int .i64 p.i21) rfl)
 have l17:=load_int (cell_of hc 82 (.int .i64 p.i82) rfl)
 have l18:=load_int (cell_of hc 83 (.int .i64 p.i83) rfl)
 have l19:=load_int (cell_of hc 84 (.int .i64 p.i84) rfl)
 have l20:=load_int (cell_of hc 85 (.int .i64 p.i85) rfl)
 have l21:=load_int (cell_of hc 86 (.int .i64 p.i86) rfl)
 have l22:=load_int (cell_of hc 89 (.int .i64 p.i89) rfl)
 have l23:=load_int (cell_of hc 92 (.int .i64 p.i92) rfl)
 have l24:=load_int (cell_of hc 118 (.int .i64 p.i118) rfl)
 have l25:=load_int (cell_of hc 119 (.int .i64 p.i119) rfl)
 have l26:=load_bool (cell_of hc 19 (.bool p.b19) rfl)
 have l27:=load_bool (cell_of hc 81 (.bool p.b81) rfl)
 have l28:=load_bool (cell_of hc 87 (.bool p.b87) rfl)
 have l29:=load_bool (cell_of hc 88 (.bool p.b88) rfl)
 have l30:=load_bool (cell_of hc 90 (.bool p.b90) rfl)
 have l31:=load_bool (cell_of hc 93 (.bool p.b93) rfl)
 have l32:=load_bool (cell_of hc 94 (.bool p.b94) rfl)
 have l33:=load_bool (cell_of hc 95 (.bool p.b95) rfl)
 have l34:=load_bool (cell_of hc 96 (.bool p.b96) rfl)
 have l35:=load_bool (cell_of hc 97 (.bool p.b97) rfl)
 have l36:=load_bool (cell_of hc 98 (.bool p.b98) rfl)
 have l37:=load_bool (cell_of hc 120 (.bool p.b120) rfl)
 clear hc hc0 hkeep hb1 hb2
 go_enter Tryz.func23,Tryz.ntmps23
 go_wp2
 refine wp_cells 61 _ #[.string p.s1,.string p.s2,.string p.s17,.string p.s91,.int .i64 p.i0,.int .i64 p.i3,.int .i64 p.i4,.int .i64 p.i5,.int .i64 p.i11,.int .i64 p.i12,.int .i64 p.i13,.int .i64 p.i14,.int .i64 p.i15,.int .i64 p.i16,.int .i64 p.i18,.int .i64 p.i20,.int .i64 p.i21,.int .i64 p.i82,.int .i64 p.i83,.int .i64 p.i84,.int .i64 p.i85,.int .i64 p.i86,.int .i64 p.i89,.int .i64 p.i92,.int .i64 p.i118,.int .i64 p.i119,.bool p.b19,.bool p.b81,.bool p.b87,.bool p.b88,.bool p.b90,.bool p.b93,.bool p.b94,.bool p.b95,.bool p.b96,.bool p.b97,.bool p.b98,.bool p.b120] rfl (by kernel_rfl) ?_
 go_wp2
 exact bodyPost_ret_by (results_mid rfl rfl hl1) rfl ⟨rfl,HB.out⟩
end Go.Proofs.YtfjlnfogbfmpiaaGreatDoor.Va
namespace Go.Proofs.YtfjlnfogbfmpiaaGreatDoor.Va
open Go Go.RowKit Nu
def fitV:List TypeId→List Value→List Value→Bool
 |t::ts,.int .i64 _::vs,.int .i64 _::us=>t==3&&fitV ts vs us
 |t::ts,.bool _::vs,.bool _::us=>t==4&&fitV ts vs us
 |t::ts,.string _::vs,.string _::us=>t==9&&fitV ts vs us
 |[],[],[]=>true
 |_,_,_=>false
def eqVs:List Value→List Value→Bool
 | .int _ a::vs,.int _ b::us=>(a==b)&&eqVs vs us
 | .bool a::vs,.bool b::us=>(a==b)&&eqVs vs us
 | .string a::vs,.string b::us=>(a.toList==b.toList)&&eqVs vs us
 |_,_=>true
theorem eqf_step {w:World} {d:Nat} {xs ys:Array Value} {f:Field} {fs:List Field} {a b:Value} {r R:Bool} (hn:(f.name== "_")=false) (ht:Tryz.prog.plainKey f.type=true) (ha:xs[f.offset]? =some a) (hb:ys[f.offset]? =some b)
 (he:(Op.equalIn d f.type a b).run Tryz.prog w= .ok r w) (hR:(Op.eqFields d xs ys fs).run Tryz.prog w= .ok R w):(Op.eqFields d xs ys (f::fs)).run Tryz.prog w= .ok (r&&R) w:=by
 have hn':f.name≠ "_" :=by simpa using hn
 have h1:=run_part_plain (P:=Tryz.prog) (w:=w) ht ha
 have h2:=run_part_plain (P:=Tryz.prog) (w:=w) ht hb
 rw [Op.eqFields,if_pos hn']
 simp only [Sem.run_bind,h1,h2,he,Result.andThen_ok]
 cases r
 ·simp only [Bool.not_false,if_true,Sem.run_pure,Bool.false_and]
 ·simp only [Bool.not_true,Bool.false_eq_true,if_false,hR,Bool.true_and]
theorem eqf_all (w:World) (d:Nat) (xs ys:Array Value):∀ (ks:List TypeId) (vs us:List Value) (fs:List Field) (k:Nat),fs.map (fun f=>(f.type,f.offset,f.name== "_"))=(ks.zipIdx k).map (fun x=>(x.1,x.2,false))→fitV ks vs us=true→
 (∀ i v,vs[i]? =some v→xs[k+i]? =some v)→(∀ i v,us[i]? =some v→ys[k+i]? =some v)→(Op.eqFields (d+1) xs ys fs).run Tryz.prog w= .ok (eqVs vs us) w
 |[],vs,us,fs,k,hf,hk,hx,hy=>by
  obtain rfl:fs=[]:=by simpa using hf
  cases vs with
  |nil=>cases us<;>simp_all [fitV,Op.eqFields,eqVs]
  |cons a vs=>simp [fitV] at hk
 |t::ts,vs,us,fs,k,hf,hk,hx,hy=>by
  cases fs with
  |nil=>simp at hf
  |cons f fs=>
   simp only [List.zipIdx_cons,List.map_cons,List.cons.injEq,Prod.mk.injEq] at hf
   obtain ⟨⟨h1,h2,h3⟩,hf⟩:=hf
   cases vs with
   |nil=>simp [fitV] at hk
   |cons a vs=>
    cases us with
    |nil=>cases a<;>simp [fitV] at hk
    |cons b us=>
     have hx0:=hx 0 _ rfl
     have hy0:=hy 0 _ rfl
     rw [Nat.add_zero,←h2] at hx0 hy0
     have hx':∀ i v,vs[i]? =some v→xs[k+1+i]? =some v:=fun i v h=>by
      have:=hx (i+1) v h
      rwa [show k+1+i=k+(i+1) by omega]
     have hy':∀ i v,us[i]? =some v→ys[k+1+i]? =some v:=fun i v h=>by
      have:=hy (i+1) v h
      rwa [show k+1+i=k+(i+1) by omega]
     cases a<;>cases b<;>try (simp [fitV] at hk;done)
     ·rename_i x y
      rw [fitV,Bool.and_eq_true,beq_iff_eq] at hk
      exact eqf_step h3 (by rw [h1,hk.1];kernel_rfl) hx0 hy0 (by rw [h1,hk.1];exact run_equalIn_bool' w d 4 _ _ Tryz.underlying4) (eqf_all w d xs ys ts _ _ fs (k+1) hf hk.2 hx' hy')
     ·rename_i k1 x k2 y
      cases k1<;>cases k2<;>try (simp [fitV] at hk;done)
      rw [fitV,Bool.and_eq_true,beq_iff_eq] at hk
      exact eqf_step h3 (by rw [h1,hk.1];kernel_rfl) hx0 hy0 (by rw [h1,hk.1];exact run_equalIn_int w d 3 _ _ _ _ Tryz.underlying3) (eqf_all w d xs ys ts _ _ fs (k+1) hf hk.2 hx' hy')
     ·rename_i x y
      rw [fitV,Bool.and_eq_true,beq_iff_eq] at hk
      exact eqf_step h3 (by rw [h1,hk.1];kernel_rfl) hx0 hy0 (by rw [h1,hk.1];exact run_equalIn_string w d 9 _ _ Tryz.underlying9) (eqf_all w d xs ys ts _ _ fs (k+1) hf hk.2 hx' hy')
theorem flat_fields:((Tryz.prog.fieldsOf 61).toList.map (fun f=>(f.type,f.offset,f.name== "_")))=[(9,0,false),(9,1,false),(9,2,false),(9,3,false),(3,4,false),(3,5,false),(3,6,false),(3,7,false),(3,8,false),(3,9,false),(3,10,false),(3,11,false),(3,12,false),(3,13,false),(3,14,false),(3,15,false),(3,16,false),(3,17,false),(3,18,false),(3,19,false),(3,20,false),(3,21,false),(3,22,false),(3,23,false),(3,24,false),(3,25,false),(4,26,false),(4,27,false),(4,28,false),(4,29,false),(4,30,false),(4,31,false),(4,32,false),(4,33,false),(4,34,false),(4,35,false),(4,36,false),(4,37,false)]:=by kernel_rfl
theorem flat_eql (p q:PT) (w:World):(binOp .eql 61 (.agg (flatP p).toArray) (.agg (flatP q).toArray)).run Tryz.prog w= .ok (.bool (eqFlat p q)) w:=by
 rw [run_eql_struct,run_equalIn_struct w 9999 61 _ _ (by kernel_rfl) (by kernel_rfl)]
 rw [eqf_all w 9998 (flatP p).toArray (flatP q).toArray [9,9,9,9,3,3,3,3,3,3,3,3,3,3,3,3,3,3,3,3,3,3,3,3,3,3,4,4,4,4,4,4,4,4,4,4,4,4] (flatP p) (flatP q) _ 0 flat_fields rfl (fun i v h=>by simpa using h) (fun i v h=>by simpa using h)]
 show Result.ok (Value.bool (eqVs (flatP p) (flatP q))) w=_
 congr 2
 simp only [flatP,eqVs,eqFlat,Bool.and_assoc,Bool.and_true]
theorem load_unss {w:World} {a:Addr} {v:Value} (h:w.cell? a=some v):(Instr.loadAt 34 (.pointer (some a))).run Tryz.prog w= .ok v w:=by
 have:=Tryz.underlying34
 have:=Tryz.sizeOf34
 go_simp
attribute [-go_sem] Go.Instr.storeAt Go.Instr.loadAt Go.run_eql_struct Go.run_equalIn_agg
theorem pequalV {N B:Nat} {t t':VT} {v v':Value} {w:World} (h:VAt B w N v t) (h':VAt B w N v' t') (hB:B≤w.heap.size):
 Calls Tryz.prog 22 #[v,v'] w fun r w'=>r= .returned (.bool (eqT t t'))∧Below w.heap.size w w':=(pequal_any h h' hB).mono fun _ _ ⟨x,y⟩=>⟨x,y.below⟩
theorem psameP_any {B N n:Nat} {p q:PT} {s s':PS} {w:World} (h:PAt B N n w p s) (h':PAt B N n w q s') (hB:B≤w.heap.size):
 Calls Tryz.prog 7 #[p.agg s,q.agg s'] w fun r w'=>r= .returned (.bool (eqP p q))∧Below w.heap.size w w':=by
 obtain ⟨W1,hW1⟩:∃ W1,(w.alloc (.cells (p.cells s).toArray 36)).alloc (.cells (q.cells s').toArray 36)=W1:=⟨_,rfl⟩
 obtain ⟨hbx,hz1⟩:=TBox.new (x:=p.cells s) (y:=q.cells s') hW1
 have HT:=Lib.hid (h.below (hbx.below.mono hB))
 have HT':=Lib.hid (h'.below (hbx.below.mono hB))
 have hBW:B≤W1.heap.size:=by omega
 have HBX:Hid (∀ v,Below W1.heap.size W1 v→TBox w v (p.cells s) (q.cells s')∧PAt B N n v p s∧PAt B N n v q s'):=fun v hv=>⟨hbx.grow (hv.mono (by omega)),HT.out.below (hv.mono (by omega)),HT'.out.below (hv.mono (by omega))⟩
 obtain ⟨U,hU⟩:∃ U,eqU p.uns q.uns=U:=⟨_,rfl⟩
 obtain ⟨S,hS⟩:∃ S,eqTT p.src q.src=S:=⟨_,rfl⟩
 obtain ⟨T,hT⟩:∃ T,eqTT p.tgt q.tgt=T:=⟨_,rfl⟩
 obtain ⟨X,hX⟩:∃ X,eqS p.state q.state=X:=⟨_,rfl⟩
 obtain ⟨V,hV⟩:∃ V,eqT p.props q.props=V:=⟨_,rfl⟩
 obtain ⟨I,hI⟩:∃ I,eqT p.info q.info=I:=⟨_,rfl⟩
 have HE:Hid (eqP p q=(eqFlat p q&&V&&S&&T&&U&&X&&((p.cond.toList==q.cond.toList)&&(p.text.toList==q.text.toList)&&I))):=by
  show eqP p q=_
  rw [eqFlat_eq,←hU,←hS,←hT,←hX,←hV,←hI];rfl
 have HC0:Hid (∀ v,Below W1.heap.size W1 v→Calls Tryz.prog 18 #[s.uv,s'.uv,sameU] v fun r w'=>r= .returned (.bool U)∧Below v.heap.size v w'):=fun v hv=>by
  have hw:B≤v.heap.size:=by have:=hv.size;omega
  obtain ⟨_,h1,h2⟩:=HBX.out v hv
  rw [←hU]
  exact peqU_any h1.uns h2.uns hw
 have HC1:Hid (∀ v,Below W1.heap.size W1 v→Calls Tryz.prog 21 #[p.src.agg s.ss,q.src.agg s'.ss] v fun r w'=>r= .returned (.bool S)∧Below v.heap.size v w'):=fun v hv=>by
  have hw:B≤v.heap.size:=by have:=hv.size;omega
  obtain ⟨_,h1,h2⟩:=HBX.out v hv
  rw [←hS]
  exact psameT_any h1.src h2.src hw
 have HC2:Hid (∀ v,Below W1.heap.size W1 v→Calls Tryz.prog 21 #[p.tgt.agg s.ts,q.tgt.agg s'.ts] v fun r w'=>r= .returned (.bool T)∧Below v.heap.size v w'):=fun v hv=>by
  have hw:B≤v.heap.size:=by have:=hv.size;omega
  obtain ⟨_,h1,h2⟩:=HBX.out v hv
  rw [←hT]
  exact psameT_any h1.tgt h2.tgt hw
 have HC3:Hid (∀ v,Below W1.heap.size W1 v→Calls Tryz.prog 20 #[p.state.agg s.xil s.xal s.xlv,q.state.agg s'.xil s'.xal s'.xlv] v fun r w'=>r= .returned (.bool X)∧Below v.heap.size v w'):=fun v hv=>by
  have hw:B≤v.heap.size:=by have:=hv.size;omega
  obtain ⟨_,h1,h2⟩:=HBX.out v hv
  rw [←hX]
  exact psame_any h1.st h2.st hw
 have HC4:Hid (∀ v,Below W1.heap.size W1 v→Calls Tryz.prog 22 #[p.props.agg s.pl,q.props.agg s'.pl] v fun r w'=>r= .returned (.bool V)∧Below v.heap.size v w'):=fun v hv=>by
  have hw:B≤v.heap.size:=by have:=hv.size;omega
  obtain ⟨_,h1,h2⟩:=HBX.out v hv
  rw [←hV]
  exact pequalV ⟨h1.pf,s.pl,rfl,h1.props⟩ ⟨h2.pf,_,rfl,h2.props⟩ hw
 have HC5:Hid (∀ v,Below W1.heap.size W1 v→Calls Tryz.prog 22 #[p.info.agg s.fl,q.info.agg s'.fl] v fun r w'=>r= .returned (.bool I)∧Below v.heap.size v w'):=fun v hv=>by
  have hw:B≤v.heap.size:=by have:=hv.size;omega
  obtain ⟨_,h1,h2⟩:=HBX.out v hv
  rw [←hI]
  exact pequalV ⟨h1.if_,s.fl,rfl,h1.info⟩ ⟨h2.if_,_,rfl,h2.info⟩ hw
 obtain ⟨R,hR⟩:∃ R,eqP p q=R:=⟨_,rfl⟩
 rw [hR] at HE ⊢
 clear hR hU hS hT hX hV hI
 have B1:Hid (Below W1.heap.size W1 W1):=Below.refl _ _
 have m1:=load_unss (by have:=cells_puns (HBX.out W1 B1.out).1.c1;rwa [Nat.zero_add] at this)
 have m2:=load_unss (by have:=cells_puns (HBX.out W1 B1.out).1.c2;rwa [Nat.zero_add] at this)
 clear h h' hbx HT HT'
 go_enter Tryz.func7,Tryz.ntmps7
 go_wp2_with (fail)
 clear hW1 m1 m2
 refine (HC0.out W1 B1.out).mono ?_
 rintro r w2 ⟨rfl,hb2⟩
 have B2:Hid (Below W1.heap.size W1 w2):=hb2
 clear hb2 HC0
 cases U with
 |false=>
  have HB4:=Lib.hid (HBX.out w2 B2.out).1.below
  go_wp2
  go_ret
  exact ⟨ret_bool (by rw [HE.out];simp),HB4.out⟩
 |true=>
  have m1:=load_term (by have:=cells_psrc (HBX.out w2 B2.out).1.c1;rwa [Nat.zero_add] at this)
  have m2:=load_term (by have:=cells_psrc (HBX.out w2 B2.out).1.c2;rwa [Nat.zero_add] at this)
  go_wp2_with (fail)
  clear m1 m2
  refine (HC1.out w2 B2.out).mono ?_
  rintro r w3 ⟨rfl,hb3⟩
  have B3:=Lib.hid (B2.out.trans (hb3.mono B2.out.size))
  clear hb3 HC1
  cases S with
  |false=>
   have HB4:=Lib.hid (HBX.out w3 B3.out).1.below
   go_wp2
   go_ret
   exact ⟨ret_bool (by rw [HE.out];simp),HB4.out⟩
  |true=>
   have m1:=load_term (by have:=cells_ptgt (HBX.out w3 B3.out).1.c1;rwa [Nat.zero_add] at this)
   have m2:=load_term (by have:=cells_ptgt (HBX.out w3 B3.out).1.c2;rwa [Nat.zero_add] at this)
   go_wp2_with (fail)
   clear m1 m2
   refine (HC2.out w3 B3.out).mono ?_
   rintro r w4 ⟨rfl,hb4⟩
   have B4:=Lib.hid (B3.out.trans (hb4.mono B3.out.size))
   clear hb4 HC2
   cases T with
   |false=>
    have HB4:=Lib.hid (HBX.out w4 B4.out).1.below
    go_wp2
    go_ret
    exact ⟨ret_bool (by rw [HE.out];simp),HB4.out⟩
   |true=>
    have m1:=load_state (by have:=cells_pstate (HBX.out w4 B4.out).1.c1;rwa [Nat.zero_add] at this)
    have m2:=load_state (by have:=cells_pstate (HBX.out w4 B4.out).1.c2;rwa [Nat.zero_add] at this)
    go_wp2_with (fail)
    clear m1 m2
    refine (HC3.out w4 B4.out).mono ?_
    rintro r w5 ⟨rfl,hb5⟩
    have B5:=Lib.hid (B4.out.trans (hb5.mono B4.out.size))
    clear hb5 HC3
    cases X with
    |false=>
     have HB4:=Lib.hid (HBX.out w5 B5.out).1.below
     go_wp2
     go_ret
     exact ⟨ret_bool (by rw [HE.out];simp),HB4.out⟩
    |true=>
     have m1:=load_value (by have:=cells_pprops (HBX.out w5 B5.out).1.c1;rwa [Nat.zero_add] at this)
     have m2:=load_value (by have:=cells_pprops (HBX.out w5 B5.out).1.c2;rwa [Nat.zero_add] at this)
     go_wp2_with (fail)
     clear m1 m2
     refine (HC4.out w5 B5.out).mono ?_
     rintro r w6 ⟨rfl,hb6⟩
     have B6:=Lib.hid (B5.out.trans (hb6.mono B5.out.size))
     clear hb6 HC4
     cases V with
     |false=>
      have HB4:=Lib.hid (HBX.out w6 B6.out).1.below
      go_wp2
      go_ret
      exact ⟨ret_bool (by rw [HE.out];simp),HB4.out⟩
     |true=>
      have q0:=load_str (cell_of (HBX.out w6 B6.out).1.c1 121 _ rfl)
      have r0:=load_str (cell_of (HBX.out w6 B6.out).1.c1 122 _ rfl)
      have q1:=load_str (cell_of (HBX.out w6 B6.out).1.c2 121 _ rfl)
      have r1:=load_str (cell_of (HBX.out w6 B6.out).1.c2 122 _ rfl)
      by_cases hc:p.cond=q.cond
      rotate_left
      ·have he:(p.cond.toList==q.cond.toList)=false:=by
        have:¬p.cond.toList=q.cond.toList:=fun h=>hc (toList_inj h)
        simp [this]
       have HN:Hid (R=false):=by show R=false;rw [HE.out,he];simp
       have HB4:=Lib.hid (HBX.out w6 B6.out).1.below
       clear HE hc
       go_wp2
       go_ret
       exact ⟨ret_bool HN.out.symm,HB4.out⟩
      by_cases ht:p.text=q.text
      rotate_left
      ·have he:(p.text.toList==q.text.toList)=false:=by
        have:¬p.text.toList=q.text.toList:=fun h=>ht (toList_inj h)
        simp [this]
       have HN:Hid (R=false):=by show R=false;rw [HE.out,he];simp
       have HB4:=Lib.hid (HBX.out w6 B6.out).1.below
       rw [←hc] at q1
       clear HE ht hc
       go_wp2
       go_ret
       exact ⟨ret_bool HN.out.symm,HB4.out⟩
      have HE2:Hid (R=(eqFlat p q&&I)):=by
       show R=_
       rw [HE.out,hc,ht];simp
      rw [←hc] at q1
      rw [←ht] at r1
      clear HE hc ht
      have m1:=load_value (by have:=cells_pinfo (HBX.out w6 B6.out).1.c1;rwa [Nat.zero_add] at this)
      have m2:=load_value (by have:=cells_pinfo (HBX.out w6 B6.out).1.c2;rwa [Nat.zero_add] at this)
      go_wp2_with (fail)
      clear m1 m2
      refine (HC5.out w6 B6.out).mono ?_
      rintro r w7 ⟨rfl,hb7⟩
      have B7:=Lib.hid (B6.out.trans (hb7.mono B6.out.size))
      clear hb7 HC5
      clear q0 q1 r0 r1
      cases I with
      |false=>
       have HB4:=Lib.hid (HBX.out w7 B7.out).1.below
       go_wp2
       go_ret
       exact ⟨ret_bool (by rw [HE2.out];simp),HB4.out⟩
      |true=>
       have HE3:Hid (R=eqFlat p q):=by show R=_;rw [HE2.out];simp
       have HFE:Hid (∀ v,(binOp .eql 61 (.agg (flatP p).toArray) (.agg (flatP q).toArray)).run Tryz.prog v= .ok (.bool (eqFlat p q)) v):=flat_eql p q
       clear HE2
       have HALL:Hid (∀ v,Below w7.heap.size w7 v→(Below w7.heap.size w7 v∧(Instr.loadAt 36 (.pointer (some ⟨w.heap.size,0,none⟩))).run Tryz.prog v= .ok (p.agg s) v∧(Instr.loadAt 36 (.pointer (some ⟨w.heap.size+1,0,none⟩))).run Tryz.prog v= .ok (q.agg s') v)):=fun v hv=>by
        have hx:=(HBX.out v (B7.out.trans (hv.mono B7.out.size))).1
        exact ⟨hv,load_perf hx.c1,load_perf hx.c2⟩
       have HBW:=Lib.hid (HBX.out w7 B7.out).1.below
       have hfe:=flat_eql p q
       have hge:∀ x y v,(eqGuard .eql 61 x y (.agg (flatP p).toArray) (.agg (flatP q).toArray)).run Tryz.prog v= .ok () v:=fun x y v=>run_eqGuard_agg (P:=Tryz.prog) v .eql 61 x y _ _ (by kernel_rfl)
       have HCp:Hid (∀ v,Below w7.heap.size w7 v→Calls Tryz.prog 23 #[p.agg s] v fun r w'=>r= .returned (.agg (flatP p).toArray)∧Below w7.heap.size w7 w'):=fun v hv=>(plain_any p s v).mono fun r w' ⟨x,y⟩=>⟨x,hv.trans (y.mono hv.size)⟩
       have HCq:Hid (∀ v,Below w7.heap.size w7 v→Calls Tryz.prog 23 #[q.agg s'] v fun r w'=>r= .returned (.agg (flatP q).toArray)∧Below w7.heap.size w7 w'):=fun v hv=>(plain_any q s' v).mono fun r w' ⟨x,y⟩=>⟨x,hv.trans (y.mono hv.size)⟩
       clear HFE
       go_wp2
       go_region_held3 (fun v=>Below w7.heap.size w7 v∧(Instr.loadAt 36 (.pointer (some ⟨w.heap.size,0,none⟩))).run Tryz.prog v= .ok (p.agg s) v∧(Instr.loadAt 36 (.pointer (some ⟨w.heap.size+1,0,none⟩))).run Tryz.prog v= .ok (q.agg s') v)
        (first
          |with_reducible exact HALL.out _ hb6.out
          |with_reducible exact HALL.out _ hb5.out
          |with_reducible exact HALL.out _ (Below.refl _ _).drew)
        ((go_at_call 23;first
          |(refine (HCq.out _ hb5.out).mono ?_;rintro r w9 ⟨rfl,hb6'⟩;have hb6:=Lib.hid hb6';clear hb6')
          |(refine (HCp.out _ (Below.refl _ _).drew).mono ?_;rintro r w8 ⟨rfl,hb5'⟩;have hb5:=Lib.hid hb5';clear hb5')))
       go_wp2
       go_ret
       exact ⟨ret_bool HE3.out.symm,HBW.out.trans (hb6.out.mono HBW.out.size)⟩
end Go.Proofs.YtfjlnfogbfmpiaaGreatDoor.Va
namespace Go.Proofs.YtfjlnfogbfmpiaaGreatDoor.Va
open Go Go.RowKit Nu
theorem store_unss {w:World} {b o:Nat} {a:Option Addr} {n c:Nat} (h:w.there b o 1):(Instr.storeAt 34 (.pointer (some ⟨b,o,none⟩)) (.slice a n c)).run Tryz.prog w= .ok () (w.setCells b o [.slice a n c]):=by
 have h0:=h 0 (by omega)
 obtain ⟨u,hu⟩:=Option.isSome_iff_exists.1 h0.1
 have hf:=h0.2
 have:=Tryz.underlying34
 have:=Tryz.sizeOf34
 show _=Result.ok () (w.setCell ⟨b,o,none⟩ (.slice a n c))
 rw [Nat.add_zero] at hu hf
 go_simp
attribute [-go_sem] Go.Instr.storeAt Go.Instr.loadAt
theorem one_pA (p:PT):((pA p).all Value.oneCell')=true:=by simp [pA,Value.oneCell']
theorem one_pB (p:PT):((pB p).all Value.oneCell')=true:=by simp [pB,Value.oneCell']
theorem one_pC (p:PT):((pC p).all Value.oneCell')=true:=by simp [pC,Value.oneCell']
theorem one_pD (p:PT):((pD p).all Value.oneCell')=true:=by simp [pD,Value.oneCell']
theorem one_vt (t:VT) {lv:Value} (h:lv.oneCell'=true):((t.cells lv).all Value.oneCell')=true:=by simp [VT.cells,Value.oneCell'] at h ⊢;exact h
theorem one_st (t:ST) {il al lv:Value} (h1:il.oneCell'=true) (h2:al.oneCell'=true) (h3:lv.oneCell'=true):((t.cells il al lv).all Value.oneCell')=true:=by
 simp [ST.cells,h1,h2,h3];simp [Value.oneCell']
theorem one_tt (t:TT) {s:TS} (h:s.one):((t.cells s).all Value.oneCell')=true:=by
 obtain ⟨a,b,c,d,e⟩:=h;simp [TT.cells,tpre,ST.cells,a,b,c,d,e];simp [Value.oneCell']
theorem one_pt (p:PT) {s:PS} (h:s.one):((p.cells s).all Value.oneCell')=true:=by
 obtain ⟨a,b,c,d,e,f,g,k⟩:=h
 simp only [PT.cells,List.all_append,one_pA,one_pB,one_pC,one_pD,one_vt _ a,one_vt _ k,one_tt _ b,one_tt _ c,one_st _ e f g,Bool.and_true,Bool.true_and]
 simp [d];simp [Value.oneCell']
theorem store_perf {w:World} {b o:Nat} {p:PT} {s:PS} (h:w.there b o 128) (h1:s.one):(Instr.storeAt 36 (.pointer (some ⟨b,o,none⟩)) (p.agg s)).run Tryz.prog w= .ok () (w.setCells b o (p.cells s)):=
 Go.run_storeAt_mid w b o 36 (p.cells s).toArray h (by kernel_rfl) (by have:=one_pt p h1;simpa using this)
theorem patch_pprops {w:World} {b:Nat} {p:PT} {s:PS} (v:Value) (h:Cells w b 0 (p.cells s)):Cells (w.setCells b 6 (p.props.cells v)) b 0 (p.cells {s with pl:=v}):=
 cells_patch (pre:=pA p) (mid:=p.props.cells s.pl) (mid':=p.props.cells v) h rfl
theorem patch_psrc {w:World} {b:Nat} {p:PT} {s:PS} (v:TS) (h:Cells w b 0 (p.cells s)):Cells (w.setCells b 22 (p.src.cells v)) b 0 (p.cells {s with ss:=v}):=by
 have e1:p.cells s=(pA p++(p.props.cells s.pl++(pB p)))++(p.src.cells s.ss++(p.tgt.cells s.ts++([s.uv]++(pC p++(p.state.cells s.xil s.xal s.xlv++(pD p++(([.string p.cond,.string p.text]:List Value)++(p.info.cells s.fl)))))))):=by simp only [PT.cells,List.append_assoc]
 have e2:p.cells {s with ss:=v}=(pA p++(p.props.cells s.pl++(pB p)))++(p.src.cells v++(p.tgt.cells s.ts++([s.uv]++(pC p++(p.state.cells s.xil s.xal s.xlv++(pD p++(([.string p.cond,.string p.text]:List Value)++(p.info.cells s.fl)))))))):=by simp only [PT.cells,List.append_assoc]
 have e3:(pA p++(p.props.cells s.pl++(pB p))).length=22:=rfl
 rw [e1] at h
 rw [e2]
 have h1:=cells_patch (mid':=p.src.cells v) h rfl
 rw [e3] at h1
 exact h1
theorem patch_ptgt {w:World} {b:Nat} {p:PT} {s:PS} (v:TS) (h:Cells w b 0 (p.cells s)):Cells (w.setCells b 51 (p.tgt.cells v)) b 0 (p.cells {s with ts:=v}):=by
 have e1:p.cells s=(pA p++(p.props.cells s.pl++(pB p++(p.src.cells s.ss))))++(p.tgt.cells s.ts++([s.uv]++(pC p++(p.state.cells s.xil s.xal s.xlv++(pD p++(([.string p.cond,.string p.text]:List Value)++(p.info.cells s.fl))))))):=by simp only [PT.cells,List.append_assoc]
 have e2:p.cells {s with ts:=v}=(pA p++(p.props.cells s.pl++(pB p++(p.src.cells s.ss))))++(p.tgt.cells v++([s.uv]++(pC p++(p.state.cells s.xil s.xal s.xlv++(pD p++(([.string p.cond,.string p.text]:List Value)++(p.info.cells s.fl))))))):=by simp only [PT.cells,List.append_assoc]
 have e3:(pA p++(p.props.cells s.pl++(pB p++(p.src.cells s.ss)))).length=51:=rfl
 rw [e1] at h
 rw [e2]
 have h1:=cells_patch (mid':=p.tgt.cells v) h rfl
 rw [e3] at h1
 exact h1
theorem patch_puns {w:World} {b:Nat} {p:PT} {s:PS} (v:Value) (h:Cells w b 0 (p.cells s)):Cells (w.setCells b 80 ([v])) b 0 (p.cells {s with uv:=v}):=by
 have e1:p.cells s=(pA p++(p.props.cells s.pl++(pB p++(p.src.cells s.ss++(p.tgt.cells s.ts)))))++([s.uv]++(pC p++(p.state.cells s.xil s.xal s.xlv++(pD p++(([.string p.cond,.string p.text]:List Value)++(p.info.cells s.fl)))))):=by simp only [PT.cells,List.append_assoc]
 have e2:p.cells {s with uv:=v}=(pA p++(p.props.cells s.pl++(pB p++(p.src.cells s.ss++(p.tgt.cells s.ts)))))++([v]++(pC p++(p.state.cells s.xil s.xal s.xlv++(pD p++(([.string p.cond,.string p.text]:List Value)++(p.info.cells s.fl)))))):=by simp only [PT.cells,List.append_assoc]
 have e3:(pA p++(p.props.cells s.pl++(pB p++(p.src.cells s.ss++(p.tgt.cells s.ts))))).length=80:=rfl
 rw [e1] at h
 rw [e2]
 have h1:=cells_patch (mid':=[v]) h rfl
 rw [e3] at h1
 exact h1
theorem patch_pstate {w:World} {b:Nat} {p:PT} {s:PS} (il al lv:Value) (h:Cells w b 0 (p.cells s)):Cells (w.setCells b 99 (p.state.cells il al lv)) b 0 (p.cells {s with xil:=il,xal:=al,xlv:=lv}):=by
 have e1:p.cells s=(pA p++(p.props.cells s.pl++(pB p++(p.src.cells s.ss++(p.tgt.cells s.ts++([s.uv]++(pC p)))))))++(p.state.cells s.xil s.xal s.xlv++(pD p++(([.string p.cond,.string p.text]:List Value)++(p.info.cells s.fl)))):=by simp only [PT.cells,List.append_assoc]
 have e2:p.cells {s with xil:=il,xal:=al,xlv:=lv}=(pA p++(p.props.cells s.pl++(pB p++(p.src.cells s.ss++(p.tgt.cells s.ts++([s.uv]++(pC p)))))))++(p.state.cells il al lv++(pD p++(([.string p.cond,.string p.text]:List Value)++(p.info.cells s.fl)))):=by simp only [PT.cells,List.append_assoc]
 have e3:(pA p++(p.props.cells s.pl++(pB p++(p.src.cells s.ss++(p.tgt.cells s.ts++([s.uv]++(pC p))))))).length=99:=rfl
 rw [e1] at h
 rw [e2]
 have h1:=cells_patch (mid':=p.state.cells il al lv) h rfl
 rw [e3] at h1
 exact h1
theorem patch_pinfo {w:World} {b:Nat} {p:PT} {s:PS} (v:Value) (h:Cells w b 0 (p.cells s)):Cells (w.setCells b 123 (p.info.cells v)) b 0 (p.cells {s with fl:=v}):=by
 have e1:p.cells s=(pA p++(p.props.cells s.pl++(pB p++(p.src.cells s.ss++(p.tgt.cells s.ts++([s.uv]++(pC p++(p.state.cells s.xil s.xal s.xlv++(pD p++(([.string p.cond,.string p.text]:List Value)))))))))))++(p.info.cells s.fl++([])):=by simp only [PT.cells,List.append_assoc,List.append_nil]
 have e2:p.cells {s with fl:=v}=(pA p++(p.props.cells s.pl++(pB p++(p.src.cells s.ss++(p.tgt.cells s.ts++([s.uv]++(pC p++(p.state.cells s.xil s.xal s.xlv++(pD p++(([.string p.cond,.string p.text]:List Value)))))))))))++(p.info.cells v++([])):=by simp only [PT.cells,List.append_assoc,List.append_nil]
 have e3:(pA p++(p.props.cells s.pl++(pB p++(p.src.cells s.ss++(p.tgt.cells s.ts++([s.uv]++(pC p++(p.state.cells s.xil s.xal s.xlv++(pD p++(([.string p.cond,.string p.text]:List Value))))))))))).length=123:=rfl
 rw [e1] at h
 rw [e2]
 have h1:=cells_patch (mid':=p.info.cells v) h rfl
 rw [e3] at h1
 exact h1
end Go.Proofs.YtfjlnfogbfmpiaaGreatDoor.Va
namespace Go.Proofs.YtfjlnfogbfmpiaaGreatDoor.Va
open Go Go.RowKit Nu
attribute [-go_sem] Go.Instr.storeAt Go.Instr.loadAt
theorem lentV_any {N B:Nat} {t:VT} {lv:Value} {w:World} (hl:LAt B w N lv t.list) (hs:Sms t.list) (hB:B≤w.heap.size):
 Calls Tryz.prog 15 #[t.agg lv] w fun r w'=>∃ b,r= .returned (t.agg (lentSl b t.list.length))∧LentAt w' N w.heap.size w'.heap.size (lentSl b t.list.length) t.list∧Below w.heap.size w w':=
 (lent_of (lents N) B t.kind t.num t.text t.elem t.list lv w hl hs hB).mono fun r w' ⟨v,hr,hL,hb⟩=>by
   obtain ⟨b,hv⟩:=hL.form
   subst hv
   exact ⟨b,hr,hL,hb⟩
def zeroPT:PT:=⟨0,⟨#[]⟩,⟨#[]⟩,0,0,0,.mk 0 0 ⟨#[]⟩ 0 [],0,0,0,0,0,0,⟨#[]⟩,0,false,0,0,zeroTT,zeroTT,[],false,0,0,0,0,0,false,false,0,false,⟨#[]⟩,0,false,false,false,false,false,false,zeroS 0,0,0,false,⟨#[]⟩,⟨#[]⟩,.mk 0 0 ⟨#[]⟩ 0 []⟩
def nilPS:PS:=⟨nilV,nilTS,nilTS,nilV,nilV,nilV,nilV,nilV⟩
theorem zero128_eq:Tryz.zeroCells36=(zeroPT.cells nilPS).toArray:=by kernel_rfl
def infoU:TypeInfo:=(Tryz.prog.info? 50).getD default
theorem info_u:Tryz.prog.info? 50=some infoU:=by kernel_rfl
theorem infoU_size:infoU.size=20:=by kernel_rfl
theorem infoU_zero:infoU.zero.isSome=true:=by kernel_rfl
theorem infoU_bytes:infoU.bytes≤4096:=of_decide_eq_true (by kernel_rfl)
theorem make_uns (w:World) (n:Nat) (hn:n≤10000):∃ C:Array Value,C.size=(n+3)*20∧(Instr.makeSlice 34 (.int .i64 (n+3)) (.int .i64 (n+3))).run Tryz.prog w= .ok (.slice (some ⟨w.heap.size,0,none⟩) (n+3) (n+3)) (w.alloc (.cells C 50)):=by
 obtain ⟨z,hz⟩:=Option.isSome_iff_exists.1 infoU_zero
 have:=run_make (P:=Tryz.prog) w 34 50 infoU _ Tryz.underlying34 info_u hz .i64 .i64 (n+3) (n+3) (by omega) (Int.le_refl _) (by have:=infoU_bytes;have:(infoU.bytes:Int)*((n:Int)+3)≤4096*10003:=Int.mul_le_mul (by omega) (by omega) (by omega) (by omega);omega) (by omega)
 rw [infoU_size] at this
 have e:(((n:Int)+3).toNat)=n+3:=by omega
 rw [e] at this
 exact ⟨_,size_madeCells _ _,this⟩
structure PSm (p:PT):Prop where
 props:Sms p.props.list
 info:Sms p.info.list
 si:Sms p.state.info.list
 sa:Sms p.state.ann.list
 sl:Ssm p.state.inner
 t1:Sms p.src.dflt.info.list
 t2:Sms p.src.dflt.ann.list
 t3:Ssm p.src.dflt.inner
 t4:p.src.outs.length≤100000
 t5:p.src.caps.length≤100000
 g1:Sms p.tgt.dflt.info.list
 g2:Sms p.tgt.dflt.ann.list
 g3:Ssm p.tgt.dflt.inner
 g4:p.tgt.outs.length≤100000
 g5:p.tgt.caps.length≤100000
 un:p.uns.length≤5000
 us:∀ u∈p.uns,Sms u.2.info.list∧Sms u.2.ann.list∧Ssm u.2.inner
theorem lentP_any {B N n:Nat} {p:PT} {s:PS} {w:World} (h:PAt B N n w p s) (hB:B≤w.heap.size) (hm:PSm p):
 Calls Tryz.prog 6 #[p.agg s] w fun r w'=>∃ s' m,r= .returned (p.agg s')∧s'.one∧PLent w' N n w.heap.size w'.heap.size p s' m∧Below w.heap.size w w':=by
 obtain ⟨W1,hW1⟩:∃ W1,(w.alloc (.cells (p.cells s).toArray 36)).alloc (.cells Tryz.zeroCells36 36)=W1:=⟨_,rfl⟩
 obtain ⟨hbx,hz1⟩:=TBox.new (x:=p.cells s) (y:=zeroPT.cells nilPS) (T:=36) (W1:=W1) (by rw [←hW1,zero128_eq])
 have HX0:=Lib.hid hbx
 have HM:=Lib.hid hm
 have HP:=Lib.hid h
 obtain ⟨q0,c0,hq0⟩:=h.uns.slice
 obtain ⟨m,hmu⟩:∃ m,p.uns.length=m:=⟨_,rfl⟩
 have Hm:=Lib.hid hmu
 have hlen:m≤5000:=by have:=hm.un;omega
 rw [hmu] at hq0
 have HQ0:=Lib.hid hq0
 have E0:Hid (w.heap.size+2≤W1.heap.size):=by show _≤_;omega
 have hw0:Hid (B≤w.heap.size):=hB
 have hld:(Instr.loadAt 25 (.pointer (some ⟨w.heap.size,6,none⟩))).run Tryz.prog W1= .ok (p.props.agg s.pl) W1:=by have hx:=cells_pprops (o:=0) HX0.out.c1;exact load_value (o:=6) hx
 have HC:=Lib.hid (show Calls Tryz.prog 15 #[p.props.agg s.pl] W1 _ from by
  have hsz:B≤W1.heap.size:=by have:=HX0.out.size;have:=hw0.out;omega
  have hbw:Below B w W1:=HX0.out.below.mono hw0.out
  exact lentV_any (HP.out.below hbw).props HM.out.props hsz)
 clear h hm hbx hB hq0 hmu
 go_enter Tryz.func6,Tryz.ntmps6
 go_wp2_with (fail)
 clear hld hW1
 refine HC.out.mono ?_
 rintro r wk ⟨b1,rfl,n1,hb⟩
 have hbx:=HX0.out.grow (hb.mono HX0.out.size)
 have hst:=store_value (t:=p.props) (a:=some ⟨b1,0,none⟩) (n:=p.props.list.length) (c:=p.props.list.length+3) ((cells_has hbx.c1).there hbx.f1 (o:=6) (n:=5) (by rw [PT.cells_len];omega))
 have hbx2:=hbx.set (patch_pprops (lentSl b1 p.props.list.length) hbx.c1)
 have ha:=set_apart wk w.heap.size 6 (p.props.cells (lentSl b1 p.props.list.length))
 have hz:=setCells_size wk w.heap.size (p.props.cells (lentSl b1 p.props.list.length)) 6 wk
 have hzb:=hb.size
 have ha2:Apart w.heap.size (w.heap.size+1) W1 (wk.setCells w.heap.size 6 (p.props.cells (lentSl b1 p.props.list.length))):=(Apart.of_below hb (Nat.le_refl _)).trans ha
 generalize wk.setCells w.heap.size 6 (p.props.cells (lentSl b1 p.props.list.length))=X1 at*
 have E1:Hid (LentAt X1 N (w.heap.size+2) X1.heap.size (lentSl b1 p.props.list.length) p.props.list∧w.heap.size+2≤X1.heap.size):=by
  have z0:=E0.out
  have:=n1.le
  rw [hz]
  exact ⟨(n1.apart ha (by omega) (.inr (by omega))).lo (by omega),by omega⟩
 have HX1:=Lib.hid hbx2
 clear hbx hbx2 ha ha2 hz hzb hb HC E0 HX0 n1
 have hld:(Instr.loadAt 25 (.pointer (some ⟨w.heap.size,123,none⟩))).run Tryz.prog X1= .ok (p.info.agg s.fl) X1:=by have hx:=cells_pinfo (o:=0) HX1.out.c1;exact load_value (o:=123) hx
 have HC:=Lib.hid (show Calls Tryz.prog 15 #[p.info.agg s.fl] X1 _ from by
  have hsz:B≤X1.heap.size:=by have:=HX1.out.size;have:=hw0.out;omega
  have hbw:Below B w X1:=HX1.out.below.mono hw0.out
  exact lentV_any (HP.out.below hbw).info HM.out.info hsz)
 go_wp2_with (fail)
 clear hld hst
 refine HC.out.mono ?_
 rintro r wk ⟨b2,rfl,n1,hb⟩
 have hbx:=HX1.out.grow (hb.mono HX1.out.size)
 have hst:=store_value (t:=p.info) (a:=some ⟨b2,0,none⟩) (n:=p.info.list.length) (c:=p.info.list.length+3) ((cells_has hbx.c1).there hbx.f1 (o:=123) (n:=5) (by rw [PT.cells_len];omega))
 have hbx2:=hbx.set (patch_pinfo (lentSl b2 p.info.list.length) hbx.c1)
 have ha:=set_apart wk w.heap.size 123 (p.info.cells (lentSl b2 p.info.list.length))
 have hz:=setCells_size wk w.heap.size (p.info.cells (lentSl b2 p.info.list.length)) 123 wk
 have hzb:=hb.size
 have ha2:Apart w.heap.size (w.heap.size+1) X1 (wk.setCells w.heap.size 123 (p.info.cells (lentSl b2 p.info.list.length))):=(Apart.of_below hb (Nat.le_refl _)).trans ha
 generalize wk.setCells w.heap.size 123 (p.info.cells (lentSl b2 p.info.list.length))=X2 at*
 have E2:Hid (LentAt X2 N (w.heap.size+2) X1.heap.size (lentSl b1 p.props.list.length) p.props.list∧LentAt X2 N X1.heap.size X2.heap.size (lentSl b2 p.info.list.length) p.info.list∧w.heap.size+2≤X1.heap.size∧X1.heap.size≤X2.heap.size):=by
  obtain ⟨q0,z0⟩:=E1.out
  have:=q0.le
  have:=n1.le
  rw [hz]
  exact ⟨q0.apart ha2 (by omega) (.inr (by omega)),n1.apart ha (by omega) (.inr (by omega)),by omega,by omega⟩
 have HX2:=Lib.hid hbx2
 clear hbx hbx2 ha ha2 hz hzb hb HC E1 HX1 n1
 have hld:(Instr.loadAt 30 (.pointer (some ⟨w.heap.size,99,none⟩))).run Tryz.prog X2= .ok (p.state.agg s.xil s.xal s.xlv) X2:=by have hx:=cells_pstate (o:=0) HX2.out.c1;exact load_state (o:=99) hx
 have HC:=Lib.hid (show Calls Tryz.prog 16 #[p.state.agg s.xil s.xal s.xlv] X2 _ from by
  have hsz:B≤X2.heap.size:=by have:=HX2.out.size;have:=hw0.out;omega
  have hbw:Below B w X2:=HX2.out.below.mono hw0.out
  exact lentStates n B N p.state s.xil s.xal s.xlv _ HP.out.sf (HP.out.below hbw).si (HP.out.below hbw).sa (HP.out.below hbw).sl HM.out.si HM.out.sa HM.out.sl hsz)
 go_wp2_with (fail)
 clear hld hst
 refine HC.out.mono ?_
 rintro r wk ⟨bi,ba,bl,a1,a2,rfl,n1,n2,n3,hb⟩
 have hbx:=HX2.out.grow (hb.mono HX2.out.size)
 have hst:=store_state (s:=p.state) (a1:=some ⟨bi,0,none⟩) (n1:=p.state.info.list.length) (c1:=p.state.info.list.length+3) (a2:=some ⟨ba,0,none⟩) (n2:=p.state.ann.list.length) (c2:=p.state.ann.list.length+3) (a3:=some ⟨bl,0,none⟩) (n3:=p.state.inner.length) (c3:=p.state.inner.length+3) ((cells_has hbx.c1).there hbx.f1 (o:=99) (n:=19) (by rw [PT.cells_len];omega))
 have hbx2:=hbx.set (patch_pstate (lentSl bi p.state.info.list.length) (lentSl ba p.state.ann.list.length) (lentSS bl p.state.inner.length) hbx.c1)
 have ha:=set_apart wk w.heap.size 99 (p.state.cells (lentSl bi p.state.info.list.length) (lentSl ba p.state.ann.list.length) (lentSS bl p.state.inner.length))
 have hz:=setCells_size wk w.heap.size (p.state.cells (lentSl bi p.state.info.list.length) (lentSl ba p.state.ann.list.length) (lentSS bl p.state.inner.length)) 99 wk
 have hzb:=hb.size
 have ha2:Apart w.heap.size (w.heap.size+1) X2 (wk.setCells w.heap.size 99 (p.state.cells (lentSl bi p.state.info.list.length) (lentSl ba p.state.ann.list.length) (lentSS bl p.state.inner.length))):=(Apart.of_below hb (Nat.le_refl _)).trans ha
 generalize wk.setCells w.heap.size 99 (p.state.cells (lentSl bi p.state.info.list.length) (lentSl ba p.state.ann.list.length) (lentSS bl p.state.inner.length))=X3 at*
 have E3:Hid (LentAt X3 N (w.heap.size+2) X1.heap.size (lentSl b1 p.props.list.length) p.props.list∧LentAt X3 N X1.heap.size X2.heap.size (lentSl b2 p.info.list.length) p.info.list∧LentAt X3 N X2.heap.size a1 (lentSl bi p.state.info.list.length) p.state.info.list∧LentAt X3 N a1 a2 (lentSl ba p.state.ann.list.length) p.state.ann.list∧SLent3 X3 N n a2 X3.heap.size (lentSS bl p.state.inner.length) p.state.inner∧w.heap.size+2≤X1.heap.size∧X1.heap.size≤X2.heap.size∧X2.heap.size≤X3.heap.size):=by
  obtain ⟨q0,q1,z0,z1⟩:=E2.out
  have:=q0.le
  have:=q1.le
  have:=n1.le
  have:=n2.le
  have:=n3.le
  rw [hz]
  exact ⟨q0.apart ha2 (by omega) (.inr (by omega)),q1.apart ha2 (by omega) (.inr (by omega)),n1.apart ha (by omega) (.inr (by omega)),n2.apart ha (by omega) (.inr (by omega)),n3.apart ha (by omega) (.inr (by omega)),by omega,by omega,by omega⟩
 have HX3:=Lib.hid hbx2
 clear hbx hbx2 ha ha2 hz hzb hb HC E2 HX2 n1 n2 n3
 have hld:(Instr.loadAt 33 (.pointer (some ⟨w.heap.size,22,none⟩))).run Tryz.prog X3= .ok (p.src.agg s.ss) X3:=by have hx:=cells_psrc (o:=0) HX3.out.c1;exact load_term (o:=22) hx
 have HC:=Lib.hid (show Calls Tryz.prog 17 #[p.src.agg s.ss] X3 _ from by
  have hsz:B≤X3.heap.size:=by have:=HX3.out.size;have:=hw0.out;omega
  have hbw:Below B w X3:=HX3.out.below.mono hw0.out
  exact lentT_any (HP.out.below hbw).src hsz HM.out.t1 HM.out.t2 HM.out.t3 HM.out.t4 HM.out.t5)
 go_wp2_with (fail)
 clear hld hst
 refine HC.out.mono ?_
 rintro r wk ⟨t1,c1,c2,c3,c4,rfl,o1,n1,hb⟩
 have hbx:=HX3.out.grow (hb.mono HX3.out.size)
 have hst:=store_term (t:=p.src) (s:=t1) ((cells_has hbx.c1).there hbx.f1 (o:=22) (n:=29) (by rw [PT.cells_len];omega)) (o1)
 have hbx2:=hbx.set (patch_psrc t1 hbx.c1)
 have ha:=set_apart wk w.heap.size 22 (p.src.cells t1)
 have hz:=setCells_size wk w.heap.size (p.src.cells t1) 22 wk
 have hzb:=hb.size
 have ha2:Apart w.heap.size (w.heap.size+1) X3 (wk.setCells w.heap.size 22 (p.src.cells t1)):=(Apart.of_below hb (Nat.le_refl _)).trans ha
 generalize wk.setCells w.heap.size 22 (p.src.cells t1)=X4 at*
 have E4:Hid (LentAt X4 N (w.heap.size+2) X1.heap.size (lentSl b1 p.props.list.length) p.props.list∧LentAt X4 N X1.heap.size X2.heap.size (lentSl b2 p.info.list.length) p.info.list∧LentAt X4 N X2.heap.size a1 (lentSl bi p.state.info.list.length) p.state.info.list∧LentAt X4 N a1 a2 (lentSl ba p.state.ann.list.length) p.state.ann.list∧SLent3 X4 N n a2 X3.heap.size (lentSS bl p.state.inner.length) p.state.inner∧TLent X4 N n X3.heap.size X4.heap.size p.src t1 c1 c2 c3 c4∧w.heap.size+2≤X1.heap.size∧X1.heap.size≤X2.heap.size∧X2.heap.size≤X3.heap.size∧X3.heap.size≤X4.heap.size):=by
  obtain ⟨q0,q1,q2,q3,q4,z0,z1,z2⟩:=E3.out
  have:=q0.le
  have:=q1.le
  have:=q2.le
  have:=q3.le
  have:=q4.le
  have:=n1.le
  rw [hz]
  exact ⟨q0.apart ha2 (by omega) (.inr (by omega)),q1.apart ha2 (by omega) (.inr (by omega)),q2.apart ha2 (by omega) (.inr (by omega)),q3.apart ha2 (by omega) (.inr (by omega)),q4.apart ha2 (by omega) (.inr (by omega)),n1.apart ha (by omega) (.inr (by omega)),by omega,by omega,by omega,by omega⟩
 have HX4:=Lib.hid hbx2
 clear hbx hbx2 ha ha2 hz hzb hb HC E3 HX3 n1
 have hld:(Instr.loadAt 33 (.pointer (some ⟨w.heap.size,51,none⟩))).run Tryz.prog X4= .ok (p.tgt.agg s.ts) X4:=by have hx:=cells_ptgt (o:=0) HX4.out.c1;exact load_term (o:=51) hx
 have HC:=Lib.hid (show Calls Tryz.prog 17 #[p.tgt.agg s.ts] X4 _ from by
  have hsz:B≤X4.heap.size:=by have:=HX4.out.size;have:=hw0.out;omega
  have hbw:Below B w X4:=HX4.out.below.mono hw0.out
  exact lentT_any (HP.out.below hbw).tgt hsz HM.out.g1 HM.out.g2 HM.out.g3 HM.out.g4 HM.out.g5)
 go_wp2_with (fail)
 clear hld hst
 refine HC.out.mono ?_
 rintro r wk ⟨t2,d1,d2,d3,d4,rfl,o2,n1,hb⟩
 have hbx:=HX4.out.grow (hb.mono HX4.out.size)
 have hst:=store_term (t:=p.tgt) (s:=t2) ((cells_has hbx.c1).there hbx.f1 (o:=51) (n:=29) (by rw [PT.cells_len];omega)) (o2)
 have hbx2:=hbx.set (patch_ptgt t2 hbx.c1)
 have ha:=set_apart wk w.heap.size 51 (p.tgt.cells t2)
 have hz:=setCells_size wk w.heap.size (p.tgt.cells t2) 51 wk
 have hzb:=hb.size
 have ha2:Apart w.heap.size (w.heap.size+1) X4 (wk.setCells w.heap.size 51 (p.tgt.cells t2)):=(Apart.of_below hb (Nat.le_refl _)).trans ha
 generalize wk.setCells w.heap.size 51 (p.tgt.cells t2)=X5 at*
 have E5:Hid (LentAt X5 N (w.heap.size+2) X1.heap.size (lentSl b1 p.props.list.length) p.props.list∧LentAt X5 N X1.heap.size X2.heap.size (lentSl b2 p.info.list.length) p.info.list∧LentAt X5 N X2.heap.size a1 (lentSl bi p.state.info.list.length) p.state.info.list∧LentAt X5 N a1 a2 (lentSl ba p.state.ann.list.length) p.state.ann.list∧SLent3 X5 N n a2 X3.heap.size (lentSS bl p.state.inner.length) p.state.inner∧TLent X5 N n X3.heap.size X4.heap.size p.src t1 c1 c2 c3 c4∧TLent X5 N n X4.heap.size X5.heap.size p.tgt t2 d1 d2 d3 d4∧w.heap.size+2≤X1.heap.size∧X1.heap.size≤X2.heap.size∧X2.heap.size≤X3.heap.size∧X3.heap.size≤X4.heap.size∧X4.heap.size≤X5.heap.size):=by
  obtain ⟨q0,q1,q2,q3,q4,q5,z0,z1,z2,z3⟩:=E4.out
  have:=q0.le
  have:=q1.le
  have:=q2.le
  have:=q3.le
  have:=q4.le
  have:=q5.le
  have:=n1.le
  rw [hz]
  exact ⟨q0.apart ha2 (by omega) (.inr (by omega)),q1.apart ha2 (by omega) (.inr (by omega)),q2.apart ha2 (by omega) (.inr (by omega)),q3.apart ha2 (by omega) (.inr (by omega)),q4.apart ha2 (by omega) (.inr (by omega)),q5.apart ha2 (by omega) (.inr (by omega)),n1.apart ha (by omega) (.inr (by omega)),by omega,by omega,by omega,by omega,by omega⟩
 have HX5:=Lib.hid hbx2
 clear hbx hbx2 ha ha2 hz hzb hb HC E4 HX4 n1
 have HO:Hid (t1.one∧t2.one):=⟨o1,o2⟩
 clear o1 o2
 have hld:(Instr.loadAt 34 (.pointer (some ⟨w.heap.size,80,none⟩))).run Tryz.prog X5= .ok (.slice q0 m c0) X5:=by have hx:=cells_puns (o:=0) HX5.out.c1;rw [←HQ0.out];exact load_unss hx
 obtain ⟨C,hC,hmk⟩:=make_uns X5 m (by omega)
 have hw2:IntKind.i64.wrap ((m:Int)+3)=m+3:=by rw [IntKind.wrap_i64];omega
 have HR0:Hid (URw X5.heap.size X5 (X5.alloc (.cells C 50)) N n 0 p.uns):=URw.start (by rw [Hm.out];exact hC)
 clear hC
 go_wp2
 clear hmk hst hld
 go_loopw [5] (fun i wr=>∃ (j:Nat),i= .int .i64 j∧j≤m+3∧Hid (URw X5.heap.size X5 wr N n j p.uns)) (fun i _=>m+3-(intOf i).toNat)
 case atStart=>exact ⟨0,rfl,Nat.zero_le _,HR0⟩
 case round=>
  obtain ⟨j,rfl,hj,HR⟩:=hrel
  by_cases hlt:j<m+3
  ·have hlt':(j:Int)<(m:Int)+3:=by omega
   have hstm:(Instr.storeAt 50 (.pointer (some ⟨X5.heap.size,j*20,none⟩)) (.agg #[.string ⟨#[98,101,104,105,110,100]⟩,.int .i64 0,.int .i64 0,.int .i64 0,.string ⟨#[]⟩,.string ⟨#[]⟩,.int .i64 0,.int .u64 0,.string ⟨#[]⟩,.slice none 0 0,.int .i64 0,.bool false,.bool false,.int .i64 0,.int .u64 0,.string ⟨#[]⟩,.slice none 0 0,.int .i64 0,.string ⟨#[]⟩,.slice none 0 0])).run Tryz.prog wr= .ok () (wr.setCells X5.heap.size (j*20) oddU):=
    store_uns (u:=(⟨#[98,101,104,105,110,100]⟩,zeroS 0)) (HR.out.has.there HR.out.froz (o:=j*20) (n:=20) (by rw [Hm.out];omega))
   by_cases hjm:j<m
   ·obtain ⟨t,ht⟩:∃ t,p.uns[j]? =some t:=⟨_,List.getElem?_eq_getElem (by rw [Hm.out];exact hjm)⟩
    obtain ⟨q,d,hq,hmx,hel⟩:=HP.out.uns
    obtain ⟨b0,off,il',al',lv',hp,hbB,hc,tf,hi',ha',hl'⟩:=hel j t ht
    rw [hp,Hm.out] at hq
    have hqq:=HQ0.out.symm.trans hq
    simp only [Value.slice.injEq] at hqq
    obtain ⟨rfl, -,rfl⟩:=hqq
    obtain ⟨sm1,sm2,sm3⟩:=HM.out.us t (List.mem_of_getElem? ht)
    have hB:=hw0.out
    have hz5:=HX5.out.size
    have hbw:Below w.heap.size w wr:=HX5.out.below.trans (HR.out.keep.mono (by omega))
    have hbZ:=setCells_below (B:=w.heap.size) (b:=X5.heap.size) (by omega) oddU (j*20) wr hbw
    have hcZ:=setCells_keep (b:=X5.heap.size) (o:=j*20) (vs:=oddU) (hc.below (hbw.mono hB) hbB) (.inl (by omega))
    have d80:X5.cell? ⟨w.heap.size,80,none⟩=some (.slice (some ⟨b0,off,none⟩) m c0):=by have hx:=cells_puns (o:=0) HX5.out.c1;rw [←HQ0.out];exact hx
    have d80r:wr.cell? ⟨w.heap.size,80,none⟩=some (.slice (some ⟨b0,off,none⟩) m c0):=(HR.out.keep.cell (p:=⟨w.heap.size,80,none⟩) (by show w.heap.size<_;omega)).trans d80
    have d80z:=(World.cell?_setCells_out X5.heap.size oddU (j*20) wr ⟨w.heap.size,80,none⟩ (fun h _=>absurd h (by show w.heap.size≠_;omega))).trans d80r
    have hasZ:=HR.out.has.setCells (o:=j*20) (vs:=oddU) (by rw [Hm.out];show j*20+20≤_;omega)
    have frZ:∀ o,(wr.setCells X5.heap.size (j*20) oddU).frozen? ⟨X5.heap.size,o,none⟩=false:=fun o=>(World.frozen?_setCells _ _ _ _ _).trans (HR.out.froz o)
    have szZ:=setCells_size wr X5.heap.size oddU (j*20) wr
    have HPt:Hid (∀ (il al lv:Value) (m1 m2:Nat) (w2:World),Below (wr.setCells X5.heap.size (j*20) oddU).heap.size (wr.setCells X5.heap.size (j*20) oddU) w2→
     LentAt w2 N (wr.setCells X5.heap.size (j*20) oddU).heap.size m1 il t.2.info.list→LentAt w2 N m1 m2 al t.2.ann.list→SLent3 w2 N n m2 w2.heap.size lv t.2.inner→
     URw X5.heap.size X5 (w2.setCells X5.heap.size (j*20) (ucells t il al lv)) N n (j+1) p.uns):=fun il al lv m1 m2 w2 h1 h2 h3 h4=>(HR.out.over (by rw [Hm.out];omega) rfl (by rw [Hm.out];exact hjm)).part ht tf h1 h2 h3 h4
    have hltZ:=HR.out.lt
    generalize wr.setCells X5.heap.size (j*20) oddU=Z at*
    rw [←szZ] at hltZ
    have hbZB:=hbZ.mono hB
    have HC:=Lib.hid (lentStates n B N t.2 il' al' lv' Z.drew tf (hi'.below hbZB.drew) (ha'.below hbZB.drew) (hl'.below hbZB.drew) sm1 sm2 sm3 (Nat.le_trans hB hbZ.size))
    have hszw:=hbZ.size
    have hb0:b0<Z.heap.size:=by omega
    have hw80:w.heap.size<Z.heap.size:=by omega
    have HALL:Hid (∀ v,Apart X5.heap.size (X5.heap.size+1) Z v→((Instr.loadAt 34 (.pointer (some ⟨w.heap.size,80,none⟩))).run Tryz.prog v= .ok (.slice (some ⟨b0,off,none⟩) m c0) v∧(Instr.loadAt 9 (.pointer (some ⟨b0,off+j*20,none⟩))).run Tryz.prog v= .ok (.string t.1) v∧(Instr.loadAt 30 (.pointer (some ⟨b0,off+j*20+1,none⟩))).run Tryz.prog v= .ok (t.2.agg il' al' lv') v)):=fun v hv=>
     ⟨load_unss ((hv.cell (p:=⟨w.heap.size,80,none⟩) hw80 (.inl (by show w.heap.size<_;omega))).trans d80z),load_str (cells_utag (hcZ.apart hv hb0 (.inl (by omega)))),load_state (cells_ust (hcZ.apart hv hb0 (.inl (by omega))))⟩
    have HAP0:Hid (Apart X5.heap.size (X5.heap.size+1) Z Z.drew):=(Apart.refl _ _ _).drew
    have HHas:Hid (∀ v,Below Z.heap.size Z v→v.there X5.heap.size (j*20) 20):=fun v hv=>(hasZ.below hv hltZ).there (fun o=>(hv.frozen (p:=⟨_,o,none⟩) hltZ).trans (frZ o)) (by rw [Hm.out];omega)
    clear hel hq hp hc hi' ha' hl' ht tf sm1 sm2 sm3 hbw hbZ hcZ d80 d80r d80z szZ hasZ frZ hbZB hszw hz5
    have hjm':(j:Int)<(m:Int):=by omega
    have hj0:(0:Int)≤(j:Int):=by omega
    go_wp2
    clear hstm
    go_region_held3 (fun v=>(Instr.loadAt 34 (.pointer (some ⟨w.heap.size,80,none⟩))).run Tryz.prog v= .ok (.slice (some ⟨b0,off,none⟩) m c0) v∧(Instr.loadAt 9 (.pointer (some ⟨b0,off+j*20,none⟩))).run Tryz.prog v= .ok (.string t.1) v∧(Instr.loadAt 30 (.pointer (some ⟨b0,off+j*20+1,none⟩))).run Tryz.prog v= .ok (t.2.agg il' al' lv') v)
     (first
       |with_reducible exact HALL.out _ hap5.out
       |with_reducible exact HALL.out _ hap4.out
       |with_reducible exact HALL.out _ HAP0.out)
     ((go_at_call 16;refine HC.out.mono ?_;rintro r w4 ⟨bi',ba',bl',m1,m2,rfl,e4',e5',e6',hb4'⟩;have e4:=Lib.hid e4';have e5:=Lib.hid e5';have e6:=Lib.hid e6';have hb4:Hid (Below Z.heap.size Z w4):=(Below.refl _ _).drew.trans hb4';have hap4:Hid (Apart X5.heap.size (X5.heap.size+1) Z w4):=Apart.of_below hb4.out (Nat.le_refl _);have hap5:Hid (Apart X5.heap.size (X5.heap.size+1) Z (w4.setCells X5.heap.size (j*20) (ucells t (lentSl bi' t.2.info.list.length) (lentSl ba' t.2.ann.list.length) (lentSS bl' t.2.inner.length)))):=hap4.out.trans (set_apart _ _ _ _);clear e4' e5' e6' hb4';have hst4:(Instr.storeAt 50 (.pointer (some ⟨X5.heap.size,j*20,none⟩)) (.agg #[.string t.1,.int .i64 t.2.kind,.int .i64 t.2.section_,.int .i64 t.2.offset,.string t.2.cond,.string t.2.text,.int .i64 t.2.info.kind,.int .u64 t.2.info.num,.string t.2.info.text,lentSl bi' t.2.info.list.length,.int .i64 t.2.info.elem,.bool t.2.failed,.bool t.2.elsewhere,.int .i64 t.2.ann.kind,.int .u64 t.2.ann.num,.string t.2.ann.text,lentSl ba' t.2.ann.list.length,.int .i64 t.2.ann.elem,.string t.2.txn,lentSS bl' t.2.inner.length])).run Tryz.prog w4= .ok () (w4.setCells X5.heap.size (j*20) (ucells t (lentSl bi' t.2.info.list.length) (lentSl ba' t.2.ann.list.length) (lentSS bl' t.2.inner.length))):=store_uns (u:=t) (a1:=some ⟨bi',0,none⟩) (n1:=t.2.info.list.length) (c1:=t.2.info.list.length+3) (a2:=some ⟨ba',0,none⟩) (n2:=t.2.ann.list.length) (c2:=t.2.ann.list.length+3) (a3:=some ⟨bl',0,none⟩) (n3:=t.2.inner.length) (c3:=t.2.inner.length+3) (HHas.out w4 hb4.out)))
    have hbD:Below Z.heap.size Z w4:=hb4.out
    have HR2:=Lib.hid (HPt.out _ _ _ _ _ w4 hbD e4.out e5.out e6.out)
    clear HALL HC hbD HPt HHas e4 e5 e6 hb4
    go_wp2
    go_roundw
    case rel=>exact ⟨j+1,by go_num,by omega,HR2.out⟩
    case measure=>simp [intOf];omega
   ·have hjm':¬((j:Int)<(m:Int)):=by omega
    go_wp2
    go_roundw
    case rel=>exact ⟨j+1,by go_num,by omega,HR.out.mark (by rw [Hm.out];omega) (by rw [Hm.out];exact hlt) rfl rfl⟩
    case measure=>simp [intOf];omega
  ·obtain rfl:j=m+3:=by omega
   have hbx6:=HX5.out.grow (HR.out.keep.mono HX5.out.size)
   have hst6:=store_unss (a:=some ⟨X5.heap.size,0,none⟩) (n:=m) (c:=m+3) ((cells_has hbx6.c1).there hbx6.f1 (o:=80) (n:=1) (by rw [PT.cells_len];omega))
   have hbx7:=hbx6.set (patch_puns (.slice (some ⟨X5.heap.size,0,none⟩) m (m+3)) hbx6.c1)
   have ha7:=set_apart wr w.heap.size 80 [.slice (some ⟨X5.heap.size,0,none⟩) m (m+3)]
   have hz7:=setCells_size wr w.heap.size [.slice (some ⟨X5.heap.size,0,none⟩) m (m+3)] 80 wr
   have HUL:Hid (ULent wr N n X5.heap.size wr.heap.size (.slice (some ⟨X5.heap.size,0,none⟩) m (m+3)) p.uns):=by
    have hE:=HR.out
    rw [←Hm.out] at hE ⊢
    exact hE.done (by rw [Hm.out];omega)
   have hsz6:=HR.out.keep.size
   have ha57:Apart w.heap.size (w.heap.size+1) X5 (wr.setCells w.heap.size 80 [.slice (some ⟨X5.heap.size,0,none⟩) m (m+3)]):=(Apart.of_below HR.out.keep (Nat.le_refl _)).trans ha7
   generalize wr.setCells w.heap.size 80 [.slice (some ⟨X5.heap.size,0,none⟩) m (m+3)]=Z at*
   obtain ⟨s',hs'⟩:∃ s':PS,s'=⟨lentSl b1 p.props.list.length,t1,t2,.slice (some ⟨X5.heap.size,0,none⟩) m (m+3),lentSl bi p.state.info.list.length,lentSl ba p.state.ann.list.length,lentSS bl p.state.inner.length,lentSl b2 p.info.list.length⟩:=⟨_,rfl⟩
   have h1:s'.one:=by rw [hs'];exact ⟨rfl,HO.out.1,HO.out.2,rfl,rfl,rfl,rfl,rfl⟩
   have hc7:Cells Z w.heap.size 0 (p.cells s'):=by rw [hs'];exact hbx7.c1
   have hld4:=load_perf hc7
   have hst4:=store_perf (p:=p) ((cells_has hbx7.c2).there hbx7.f2 (o:=0) (n:=128) (by rw [PT.cells_len];omega)) h1
   have hc8:Cells (Z.setCells (w.heap.size+1) 0 (p.cells s')) (w.heap.size+1) 0 (p.cells s'):=(cells_has hbx7.c2).setC (by rw [PT.cells_len,PT.cells_len];omega)
   have ha8:=set_apart Z (w.heap.size+1) 0 (p.cells s')
   have hz8:=setCells_size Z (w.heap.size+1) (p.cells s') 0 Z
   have hb8:=setCells_below (B:=w.heap.size) (Nat.le_succ _) (p.cells s') 0 Z hbx7.below
   have ha78:Apart w.heap.size (w.heap.size+2) X5 (Z.setCells (w.heap.size+1) 0 (p.cells s')):=(ha57.wide (Nat.le_refl _) (by omega)).trans (ha8.wide (by omega) (Nat.le_refl _))
   have ha68:Apart w.heap.size (w.heap.size+2) wr (Z.setCells (w.heap.size+1) 0 (p.cells s')):=(ha7.wide (Nat.le_refl _) (by omega)).trans (ha8.wide (by omega) (Nat.le_refl _))
   generalize Z.setCells (w.heap.size+1) 0 (p.cells s')=U at*
   have HU:=Lib.hid (loadVar_perf hc8)
   have HAN:Hid (PLent U N n w.heap.size U.heap.size p s' ⟨X1.heap.size,X2.heap.size,a1,a2,X3.heap.size,c1,c2,c3,c4,X4.heap.size,d1,d2,d3,d4,X5.heap.size⟩∧Below w.heap.size w U):=by
    obtain ⟨q0,q1,q2,q3,q4,q5,q6,z0,z1,z2,z3,z4⟩:=E5.out
    have l0:=q0.le
    have l1:=q1.le
    have l2:=q2.le
    have l3:=q3.le
    have l4:=q4.le
    have l5:=q5.le
    have l6:=q6.le
    have l7:=HUL.out.le
    refine ⟨?_,hb8⟩
    rw [hz8,hz7,hs']
    exact ⟨HP.out.pf,HP.out.if_,HP.out.sf,(q0.apart ha78 (by omega) (.inr (by omega))).lo (by omega),q1.apart ha78 (by omega) (.inr (by omega)),q2.apart ha78 (by omega) (.inr (by omega)),q3.apart ha78 (by omega) (.inr (by omega)),q4.apart ha78 (by omega) (.inr (by omega)),q5.apart ha78 (by omega) (.inr (by omega)),q6.apart ha78 (by omega) (.inr (by omega)),HUL.out.apart ha68 (by omega) (.inr (by omega))⟩
   have HONE:=Lib.hid h1
   have hm0:(0:Int)≤(m:Int):=by omega
   clear hbx6 hbx7 ha7 ha57 hz7 hsz6 hs' h1 hc7 hc8 ha8 hz8 hb8 ha78 ha68 HUL
   go_wp2
   exact bodyPost_ret_by (results_mid rfl rfl HU.out) rfl ⟨s',_,rfl,HONE.out,HAN.out.1,HAN.out.2⟩
end Go.Proofs.YtfjlnfogbfmpiaaGreatDoor.Va
namespace Go.Proofs.YtfjlnfogbfmpiaaGreatDoor.Va
open Go Go.RowKit Go.ChangeShapes Go.WideShapes Go.Deep Nu
theorem cellsStr:Tryz.prog.cellsOf 9=1:=by kernel_rfl
def fieldsT:Array Field:=match Tryz.prog.underlying 33 with|some (.struct fs)=>fs|_=>#[]
theorem underT:Tryz.prog.underlying 33=some (.struct fieldsT):=by kernel_rfl
theorem sizeT:fieldsT.size=11:=by kernel_rfl
theorem cellsT:Tryz.prog.cellsOf 33=29:=by kernel_rfl
theorem fieldsT_at:fieldsT.toList.map (fun f=>(f.type,f.offset,Tryz.prog.cellsOf f.type))=[(3,0,1),(9,1,1),(3,2,1),(3,3,1),(3,4,1),(4,5,1),(3,6,1),(9,7,1),(30,8,19),(31,27,1),(31,28,1)]:=by kernel_rfl
def fieldsU:Array Field:=match Tryz.prog.underlying 50 with|some (.struct fs)=>fs|_=>#[]
theorem underU:Tryz.prog.underlying 50=some (.struct fieldsU):=by kernel_rfl
theorem sizeU:fieldsU.size=2:=by kernel_rfl
theorem cellsU:Tryz.prog.cellsOf 50=20:=by kernel_rfl
theorem fieldsU_at:fieldsU.toList.map (fun f=>(f.type,f.offset,Tryz.prog.cellsOf f.type))=[(9,0,1),(30,1,19)]:=by kernel_rfl
def fieldsP:Array Field:=match Tryz.prog.underlying 36 with|some (.struct fs)=>fs|_=>#[]
theorem underP:Tryz.prog.underlying 36=some (.struct fieldsP):=by kernel_rfl
theorem sizeP:fieldsP.size=44:=by kernel_rfl
theorem cellsP:Tryz.prog.cellsOf 36=128:=by kernel_rfl
abbrev listP:List (TypeId×Nat×Nat):=[(3,0,1),(9,1,1),(9,2,1),(3,3,1),(3,4,1),(3,5,1),(25,6,5),(3,11,1),(3,12,1),(3,13,1),(3,14,1),(3,15,1),(3,16,1),(9,17,1),(3,18,1),(4,19,1),(3,20,1),(3,21,1),(33,22,29),(33,51,29),(34,80,1),(4,81,1),(3,82,1),(3,83,1),(3,84,1),(3,85,1),(3,86,1),(4,87,1),(4,88,1),(3,89,1),(4,90,1),(9,91,1),(3,92,1),(4,93,1),(4,94,1),(4,95,1),(4,96,1),(4,97,1),(4,98,1),(30,99,19),(3,118,1),(3,119,1),(4,120,1),(27,121,7)]
theorem fieldsP_at:fieldsP.toList.map (fun f=>(f.type,f.offset,Tryz.prog.cellsOf f.type))=listP:=by kernel_rfl
theorem piece {cs v:List Value} {o k o2:Nat} (h:(cs.drop o).take k=v) (e:o+k=o2):cs.drop o=v++cs.drop o2:=by
 rw [←h,←e,←List.drop_drop,List.take_append_drop]
theorem piece_len {cs:List Value} {o k:Nat} (h:o+k≤cs.length):((cs.drop o).take k).length=k:=by rw [List.length_take,List.length_drop];omega
section
variable {H:Type} {enc:TypeId×Value→H} {w:World} {base:Nat} {spare:Nat→Bool} {held:Bool}
theorem one_int {cs:List Value} {n:Nat} {x:DataW H×List MemPlace} (h:DataW.trod enc Tryz.prog w base spare held n 3 cs=some x):∃ i:Int,cs=[.int .i64 i]:=let ⟨k,e,_⟩:=DataW.trod_int Tryz.underlying3 h;⟨k,e⟩
theorem one_text {cs:List Value} {n:Nat} {x:DataW H×List MemPlace} (h:DataW.trod enc Tryz.prog w base spare held n 9 cs=some x):∃ s:ByteArray,cs=[.string s]:=let ⟨k,e,_⟩:=DataW.trod_string Tryz.underlying9 h;⟨k,e⟩
theorem one_bool {cs:List Value} {n:Nat} {x:DataW H×List MemPlace} (h:DataW.trod enc Tryz.prog w base spare held n 4 cs=some x):∃ b:Bool,cs=[.bool b]:=let ⟨k,e,_⟩:=DataW.trod_bool Tryz.underlying4 h;⟨k,e⟩
theorem one_state {cs:List Value} {n:Nat} {x:DataW H×List MemPlace} (h:DataW.trod enc Tryz.prog w base spare held n 30 cs=some x) (hl:cs.length=19):
 ∃ (t:ST) (il al lv:Value),cs=t.cells il al lv∧t.Fine∧LAt w.heap.size w n il t.info.list∧LAt w.heap.size w n al t.ann.list∧SAt w.heap.size n w n lv t.inner:=by
 obtain ⟨k,sx,o,c,t,ii,f,e,aa,tx,il,al,lv,n',y,hnn,hcs,hfine,hil,hal,hlist⟩:=open_state h hl
 obtain ⟨ss,hss⟩:=open_states hlist
 subst hnn
 exact ⟨.mk k sx o c t ii f e aa tx ss,il,al,lv,hcs ss,hfine ss,hil,hal,hss⟩
theorem cut_slice {cs:List Value} (hl:cs.length=1):∃ v,cs=[v]:=by
 match cs,hl with
 |[v],_=>exact ⟨v,rfl⟩
def TxL (d:DataW H) (l:List ByteArray):Prop:=l.length=0∨∃ el sp,d= .slice el sp∧el.length=l.length
def TmL (d:DataW H) (t:TT):Prop:=∃ parts y z,d= .agg parts∧parts[9]? =some y∧parts[10]? =some z∧TxL y t.outs∧TxL z t.caps
def PmL (d:DataW H) (p:PT):Prop:=∃ parts y z,d= .agg parts∧parts[18]? =some y∧parts[19]? =some z∧TmL y p.src∧TmL z p.tgt
theorem open_texts {fuel:Nat} {v:Value} {x:DataW H×List MemPlace} (h:DataW.trod enc Tryz.prog w base spare held fuel 31 [v]=some x):∃ l,XAt w.heap.size w v l∧TxL x.1 l:=by
 rcases DataW.trod_slice Tryz.underlying31 h with ⟨he,_⟩|⟨a,len,cap,elems,rest,n,hn,he,hx,_,hlc,hcm,hlen,hel,_,_⟩
 ·simp only [List.cons.injEq,and_true] at he
  exact ⟨[],⟨_,_,he,Nat.zero_le _,fun i s h=>by simp at h⟩,.inl rfl⟩
 ·simp only [List.cons.injEq,and_true] at he
  rcases Nat.eq_zero_or_pos len with h0|hpos
  ·subst h0;exact ⟨[],⟨_,_,he,Nat.zero_le _,fun i s h=>by simp at h⟩,.inl rfl⟩
  ·have key:∀ i,i<len→∃ s:ByteArray,w.cell? (a.add i)=some (.string s):=by
    intro i hi
    have h1:=hel i hi
    rw [List.getElem?_eq_getElem (by omega)] at h1
    obtain ⟨cs',hc,ht'⟩:=Option.bind_eq_some_iff.1 h1
    rw [cellsStr] at hc
    obtain ⟨_,hcl,hat⟩:=World.cells?_some hc
    obtain ⟨s,rfl⟩:=one_text ht'
    have:=hat 0 (by omega)
    rw [Nat.mul_one] at this
    exact ⟨s,by simpa [Addr.add] using this⟩
   obtain ⟨ss,hsl,hss⟩:=list_of len key
   have hsp:a.spot=none:=by
    obtain ⟨s,hs⟩:∃ s,ss[0]? =some s:=⟨_,List.getElem?_eq_getElem (by omega)⟩
    have:=hss 0 s hs
    simpa [Addr.add] using World.cell?_spot this
   obtain ⟨b,off,spot⟩:=a
   simp only at hsp
   subst hsp
   refine ⟨ss,⟨some ⟨b,off,none⟩,cap,by rw [hsl];exact he,by omega,fun i s hs=>?_⟩,.inr ⟨_,_,by rw [hx],by simp [hlen,hsl]⟩⟩
   have hC:w.cell? ⟨b,off+i,none⟩=some (.string s):=by
    have:=hss i s hs
    rwa [add_plain] at this
   exact ⟨b,off,rfl,lt_of_cell hC,hC⟩
theorem open_unsS {fuel:Nat} {v:Value} {x:DataW H×List MemPlace} (h:DataW.trod enc Tryz.prog w base spare held fuel 34 [v]=some x):∃ l,UAt w.heap.size fuel fuel w v l:=by
 rcases DataW.trod_slice Tryz.underlying34 h with ⟨he,_⟩|⟨a,len,cap,elems,rest,n,hn,he,_,_,hlc,hcm,hlen,hel,_,_⟩
 ·simp only [List.cons.injEq,and_true] at he
  exact ⟨[],_,_,he,Nat.zero_le _,fun i s h=>by simp at h⟩
 ·simp only [List.cons.injEq,and_true] at he
  rcases Nat.eq_zero_or_pos len with h0|hpos
  ·subst h0;exact ⟨[],_,_,he,Nat.zero_le _,fun i s h=>by simp at h⟩
  ·have key:∀ i,i<len→∃ u:ByteArray×ST,u.2.Fine∧∃ il al lv,(∀ j c,(ucells u il al lv)[j]? =some c→w.cell? (a.add (i*20+j))=some c)∧LAt w.heap.size w fuel il u.2.info.list∧LAt w.heap.size w fuel al u.2.ann.list∧SAt w.heap.size fuel w fuel lv u.2.inner:=by
    intro i hi
    have h1:=hel i hi
    rw [List.getElem?_eq_getElem (by omega)] at h1
    obtain ⟨cs',hc,ht'⟩:=Option.bind_eq_some_iff.1 h1
    rw [cellsU] at hc
    obtain ⟨_,hcl,hat⟩:=World.cells?_some hc
    obtain ⟨ys,n',hn',hy,hlen',hyl,hf⟩:=DataW.trod_struct underU ht'
    have one:∀ (j t o k:Nat),([(9,0,1),(30,1,19)]:List (TypeId×Nat×Nat))[j]? =some (t,o,k)→∃ y,DataW.trod enc Tryz.prog w base spare held n' t ((cs'.drop o).take k)=some y:=by
     intro j t o k hx
     obtain ⟨f,hj,rfl,rfl,rfl⟩:=field_gen fieldsU_at j t o k hx
     have hjl:j<2:=by rw [←sizeU];exact (Array.getElem?_eq_some_iff.1 hj).1
     exact ⟨_,(hf j f hj).trans (List.getElem?_eq_getElem (by rw [hyl,sizeU];omega))⟩
    obtain ⟨y0,t0⟩:=one 0 9 0 1 rfl
    obtain ⟨y1,t1⟩:=one 1 30 1 19 rfl
    obtain ⟨tag,e0⟩:=one_text t0
    obtain ⟨t,il,al,lv,e1,hfine,hil,hal,hlist⟩:=one_state t1 (piece_len (by omega))
    have hcs:cs'=ucells (tag,t) il al lv:=by
     have d0:=piece e0 (rfl:0+1=1)
     have d1:=piece e1 (rfl:1+19=20)
     rw [d1,List.drop_eq_nil_of_le (by omega:cs'.length≤20)] at d0
     have:cs'=cs'.drop 0:=rfl
     rw [this,d0]
     simp [ucells]
    refine ⟨(tag,t),hfine,il,al,lv,fun j u hu=>?_,hil.mono (by omega),hal.mono (by omega),hlist.mono (by omega) (by omega)⟩
    have hj:j<20:=by
     have:=(List.getElem?_eq_some_iff.1 hu).1
     simpa [ucells_len] using this
    rw [←Go.Deep.add_add,hat j hj,hcs]
    exact hu
   obtain ⟨ss,hsl,hss⟩:=list_of len key
   have hsp:a.spot=none:=by
    obtain ⟨s,hs⟩:∃ s,ss[0]? =some s:=⟨_,List.getElem?_eq_getElem (by omega)⟩
    obtain ⟨_,il,al,lv,hc,_⟩:=hss 0 s hs
    have:=hc 0 _ rfl
    simpa [Addr.add] using World.cell?_spot this
   obtain ⟨b,off,spot⟩:=a
   simp only at hsp
   subst hsp
   refine ⟨ss,some ⟨b,off,none⟩,cap,by rw [hsl];exact he,by omega,fun i u hu=>?_⟩
   obtain ⟨hf,il,al,lv,hc,hl1,hl2,hl3⟩:=hss i u hu
   have hC:Cells w b (off+i*20) (ucells u il al lv):=fun j c hcj=>by
    have:=hc j c hcj
    rwa [add_plain,show off+(i*20+j)=off+i*20+j by omega] at this
   exact ⟨b,off,il,al,lv,rfl,lt_of_cell (hC 0 _ rfl),hC,hf,hl1,hl2,hl3⟩
theorem open_term {cs:List Value} {n:Nat} {x:DataW H×List MemPlace} (h:DataW.trod enc Tryz.prog w base spare held n 33 cs=some x) (hl:cs.length=29):∃ t s,cs=TT.cells t s∧TAt w.heap.size n n w t s∧TmL x.1 t:=by
 obtain ⟨ys,n',hn',hy,hlen,hyl,hf⟩:=DataW.trod_struct underT h
 have one:∀ (j t o k:Nat),([(3,0,1),(9,1,1),(3,2,1),(3,3,1),(3,4,1),(4,5,1),(3,6,1),(9,7,1),(30,8,19),(31,27,1),(31,28,1)]:List (TypeId×Nat×Nat))[j]? =some (t,o,k)→∃ y,DataW.trod enc Tryz.prog w base spare held n' t ((cs.drop o).take k)=some y∧ys[j]? =some y:=by
  intro j t o k hx
  obtain ⟨f,hj,rfl,rfl,rfl⟩:=field_gen fieldsT_at j t o k hx
  have hjl:j<11:=by rw [←sizeT];exact (Array.getElem?_eq_some_iff.1 hj).1
  have hys:=List.getElem?_eq_getElem (l:=ys) (i:=j) (by rw [hyl,sizeT];omega)
  exact ⟨_,(hf j f hj).trans hys,hys⟩
 obtain ⟨y0,t0,g0⟩:=one 0 3 0 1 rfl
 obtain ⟨kind,e0⟩:=one_int t0
 have d0:=piece e0 (rfl:0+1=1)
 obtain ⟨y1,t1,g1⟩:=one 1 9 1 1 rfl
 obtain ⟨address,e1⟩:=one_text t1
 have d1:=piece e1 (rfl:1+1=2)
 obtain ⟨y2,t2,g2⟩:=one 2 3 2 1 rfl
 obtain ⟨durable,e2⟩:=one_int t2
 have d2:=piece e2 (rfl:2+1=3)
 obtain ⟨y3,t3,g3⟩:=one 3 3 3 1 rfl
 obtain ⟨expiry,e3⟩:=one_int t3
 have d3:=piece e3 (rfl:3+1=4)
 obtain ⟨y4,t4,g4⟩:=one 4 3 4 1 rfl
 obtain ⟨timeout,e4⟩:=one_int t4
 have d4:=piece e4 (rfl:4+1=5)
 obtain ⟨y5,t5,g5⟩:=one 5 4 5 1 rfl
 obtain ⟨dynamic,e5⟩:=one_bool t5
 have d5:=piece e5 (rfl:5+1=6)
 obtain ⟨y6,t6,g6⟩:=one 6 3 6 1 rfl
 obtain ⟨mode,e6⟩:=one_int t6
 have d6:=piece e6 (rfl:6+1=7)
 obtain ⟨y7,t7,g7⟩:=one 7 9 7 1 rfl
 obtain ⟨filter,e7⟩:=one_text t7
 have d7:=piece e7 (rfl:7+1=8)
 obtain ⟨y8,t8,g8⟩:=one 8 30 8 19 rfl
 obtain ⟨dflt,dfltI,dfltN,dfltV,e8,dfltF,dfltA,dfltB,dfltC⟩:=one_state t8 (piece_len (by omega))
 have d8:=piece e8 (rfl:8+19=27)
 obtain ⟨y9,t9,g9⟩:=one 9 31 27 1 rfl
 obtain ⟨outsV,e9⟩:=cut_slice (piece_len (cs:=cs) (o:=27) (k:=1) (by omega))
 rw [e9] at t9
 obtain ⟨outs,outsA,outsM⟩:=open_texts t9
 have d9:=piece e9 (rfl:27+1=28)
 obtain ⟨y10,t10,g10⟩:=one 10 31 28 1 rfl
 obtain ⟨capsV,e10⟩:=cut_slice (piece_len (cs:=cs) (o:=28) (k:=1) (by omega))
 rw [e10] at t10
 obtain ⟨caps,capsA,capsM⟩:=open_texts t10
 have d10:=piece e10 (rfl:28+1=29)
 have dz:cs.drop 29=[]:=List.drop_eq_nil_of_le (by omega)
 have hcs:cs=cs.drop 0:=rfl
 rw [d0,d1,d2,d3,d4,d5,d6,d7,d8,d9,d10,dz] at hcs
 refine ⟨⟨kind,address,durable,expiry,timeout,dynamic,mode,filter,dflt,outs,caps⟩,⟨dfltI,dfltN,dfltV,outsV,capsV⟩,hcs.trans rfl,⟨dfltF,dfltA.mono (by omega),dfltB.mono (by omega),dfltC.mono (by omega) (by omega),outsA,capsA⟩,ys.map (·.1),y9.1,y10.1,by rw [hy],by rw [List.getElem?_map,g9];rfl,by rw [List.getElem?_map,g10];rfl,outsM,capsM⟩
theorem open_perform {cs:List Value} {n:Nat} {x:DataW H×List MemPlace} (h:DataW.trod enc Tryz.prog w base spare held n 36 cs=some x) (hl:cs.length=128):∃ p s,cs=PT.cells p s∧PAt w.heap.size n n w p s∧PmL x.1 p:=by
 obtain ⟨ys,n',hn',hy,hlen,hyl,hf⟩:=DataW.trod_struct underP h
 have one:∀ (j t o k:Nat),listP[j]? =some (t,o,k)→∃ y,DataW.trod enc Tryz.prog w base spare held n' t ((cs.drop o).take k)=some y∧ys[j]? =some y:=by
  intro j t o k hx
  obtain ⟨f,hj,rfl,rfl,rfl⟩:=field_gen fieldsP_at j t o k hx
  have hjl:j<44:=by rw [←sizeP];exact (Array.getElem?_eq_some_iff.1 hj).1
  have hys:=List.getElem?_eq_getElem (l:=ys) (i:=j) (by rw [hyl,sizeP];omega)
  exact ⟨_,(hf j f hj).trans hys,hys⟩
 obtain ⟨y0,t0,g0⟩:=one 0 3 0 1 rfl
 obtain ⟨i0,e0⟩:=one_int t0
 have d0:=piece e0 (rfl:0+1=1)
 obtain ⟨y1,t1,g1⟩:=one 1 9 1 1 rfl
 obtain ⟨s1,e1⟩:=one_text t1
 have d1:=piece e1 (rfl:1+1=2)
 obtain ⟨y2,t2,g2⟩:=one 2 9 2 1 rfl
 obtain ⟨s2,e2⟩:=one_text t2
 have d2:=piece e2 (rfl:2+1=3)
 obtain ⟨y3,t3,g3⟩:=one 3 3 3 1 rfl
 obtain ⟨i3,e3⟩:=one_int t3
 have d3:=piece e3 (rfl:3+1=4)
 obtain ⟨y4,t4,g4⟩:=one 4 3 4 1 rfl
 obtain ⟨i4,e4⟩:=one_int t4
 have d4:=piece e4 (rfl:4+1=5)
 obtain ⟨y5,t5,g5⟩:=one 5 3 5 1 rfl
 obtain ⟨i5,e5⟩:=one_int t5
 have d5:=piece e5 (rfl:5+1=6)
 obtain ⟨y6,t6,g6⟩:=one 6 25 6 5 rfl
 obtain ⟨props,propsL,e6,propsF,propsA⟩:=open_vt t6 (piece_len (by omega))
 have d6:=piece e6 (rfl:6+5=11)
 obtain ⟨y7,t7,g7⟩:=one 7 3 11 1 rfl
 obtain ⟨i11,e7⟩:=one_int t7
 have d7:=piece e7 (rfl:11+1=12)
 obtain ⟨y8,t8,g8⟩:=one 8 3 12 1 rfl
 obtain ⟨i12,e8⟩:=one_int t8
 have d8:=piece e8 (rfl:12+1=13)
 obtain ⟨y9,t9,g9⟩:=one 9 3 13 1 rfl
 obtain ⟨i13,e9⟩:=one_int t9
 have d9:=piece e9 (rfl:13+1=14)
 obtain ⟨y10,t10,g10⟩:=one 10 3 14 1 rfl
 obtain ⟨i14,e10⟩:=one_int t10
 have d10:=piece e10 (rfl:14+1=15)
 obtain ⟨y11,t11,g11⟩:=one 11 3 15 1 rfl
 obtain ⟨i15,e11⟩:=one_int t11
 have d11:=piece e11 (rfl:15+1=16)
 obtain ⟨y12,t12,g12⟩:=one 12 3 16 1 rfl
 obtain ⟨i16,e12⟩:=one_int t12
 have d12:=piece e12 (rfl:16+1=17)
 obtain ⟨y13,t13,g13⟩:=one 13 9 17 1 rfl
 obtain ⟨s17,e13⟩:=one_text t13
 have d13:=piece e13 (rfl:17+1=18)
 obtain ⟨y14,t14,g14⟩:=one 14 3 18 1 rfl
 obtain ⟨i18,e14⟩:=one_int t14
 have d14:=piece e14 (rfl:18+1=19)
 obtain ⟨y15,t15,g15⟩:=one 15 4 19 1 rfl
 obtain ⟨b19,e15⟩:=one_bool t15
 have d15:=piece e15 (rfl:19+1=20)
 obtain ⟨y16,t16,g16⟩:=one 16 3 20 1 rfl
 obtain ⟨i20,e16⟩:=one_int t16
 have d16:=piece e16 (rfl:20+1=21)
 obtain ⟨y17,t17,g17⟩:=one 17 3 21 1 rfl
 obtain ⟨i21,e17⟩:=one_int t17
 have d17:=piece e17 (rfl:21+1=22)
 obtain ⟨y18,t18,g18⟩:=one 18 33 22 29 rfl
 obtain ⟨src,srcS,e18,srcA,srcM⟩:=open_term t18 (piece_len (by omega))
 have d18:=piece e18 (rfl:22+29=51)
 obtain ⟨y19,t19,g19⟩:=one 19 33 51 29 rfl
 obtain ⟨tgt,tgtS,e19,tgtA,tgtM⟩:=open_term t19 (piece_len (by omega))
 have d19:=piece e19 (rfl:51+29=80)
 obtain ⟨y20,t20,g20⟩:=one 20 34 80 1 rfl
 obtain ⟨unsV,e20⟩:=cut_slice (piece_len (cs:=cs) (o:=80) (k:=1) (by omega))
 rw [e20] at t20
 obtain ⟨uns,unsA⟩:=open_unsS t20
 have d20:=piece e20 (rfl:80+1=81)
 obtain ⟨y21,t21,g21⟩:=one 21 4 81 1 rfl
 obtain ⟨b81,e21⟩:=one_bool t21
 have d21:=piece e21 (rfl:81+1=82)
 obtain ⟨y22,t22,g22⟩:=one 22 3 82 1 rfl
 obtain ⟨i82,e22⟩:=one_int t22
 have d22:=piece e22 (rfl:82+1=83)
 obtain ⟨y23,t23,g23⟩:=one 23 3 83 1 rfl
 obtain ⟨i83,e23⟩:=one_int t23
 have d23:=piece e23 (rfl:83+1=84)
 obtain ⟨y24,t24,g24⟩:=one 24 3 84 1 rfl
 obtain ⟨i84,e24⟩:=one_int t24
 have d24:=piece e24 (rfl:84+1=85)
 obtain ⟨y25,t25,g25⟩:=one 25 3 85 1 rfl
 obtain ⟨i85,e25⟩:=one_int t25
 have d25:=piece e25 (rfl:85+1=86)
 obtain ⟨y26,t26,g26⟩:=one 26 3 86 1 rfl
 obtain ⟨i86,e26⟩:=one_int t26
 have d26:=piece e26 (rfl:86+1=87)
 obtain ⟨y27,t27,g27⟩:=one 27 4 87 1 rfl
 obtain ⟨b87,e27⟩:=one_bool t27
 have d27:=piece e27 (rfl:87+1=88)
 obtain ⟨y28,t28,g28⟩:=one 28 4 88 1 rfl
 obtain ⟨b88,e28⟩:=one_bool t28
 have d28:=piece e28 (rfl:88+1=89)
 obtain ⟨y29,t29,g29⟩:=one 29 3 89 1 rfl
 obtain ⟨i89,e29⟩:=one_int t29
 have d29:=piece e29 (rfl:89+1=90)
 obtain ⟨y30,t30,g30⟩:=one 30 4 90 1 rfl
 obtain ⟨b90,e30⟩:=one_bool t30
 have d30:=piece e30 (rfl:90+1=91)
 obtain ⟨y31,t31,g31⟩:=one 31 9 91 1 rfl
 obtain ⟨s91,e31⟩:=one_text t31
 have d31:=piece e31 (rfl:91+1=92)
 obtain ⟨y32,t32,g32⟩:=one 32 3 92 1 rfl
 obtain ⟨i92,e32⟩:=one_int t32
 have d32:=piece e32 (rfl:92+1=93)
 obtain ⟨y33,t33,g33⟩:=one 33 4 93 1 rfl
 obtain ⟨b93,e33⟩:=one_bool t33
 have d33:=piece e33 (rfl:93+1=94)
 obtain ⟨y34,t34,g34⟩:=one 34 4 94 1 rfl
 obtain ⟨b94,e34⟩:=one_bool t34
 have d34:=piece e34 (rfl:94+1=95)
 obtain ⟨y35,t35,g35⟩:=one 35 4 95 1 rfl
 obtain ⟨b95,e35⟩:=one_bool t35
 have d35:=piece e35 (rfl:95+1=96)
 obtain ⟨y36,t36,g36⟩:=one 36 4 96 1 rfl
 obtain ⟨b96,e36⟩:=one_bool t36
 have d36:=piece e36 (rfl:96+1=97)
 obtain ⟨y37,t37,g37⟩:=one 37 4 97 1 rfl
 obtain ⟨b97,e37⟩:=one_bool t37
 have d37:=piece e37 (rfl:97+1=98)
 obtain ⟨y38,t38,g38⟩:=one 38 4 98 1 rfl
 obtain ⟨b98,e38⟩:=one_bool t38
 have d38:=piece e38 (rfl:98+1=99)
 obtain ⟨y39,t39,g39⟩:=one 39 30 99 19 rfl
 obtain ⟨state,stateI,stateN,stateV,e39,stateF,stateA,stateB,stateC⟩:=one_state t39 (piece_len (by omega))
 have d39:=piece e39 (rfl:99+19=118)
 obtain ⟨y40,t40,g40⟩:=one 40 3 118 1 rfl
 obtain ⟨i118,e40⟩:=one_int t40
 have d40:=piece e40 (rfl:118+1=119)
 obtain ⟨y41,t41,g41⟩:=one 41 3 119 1 rfl
 obtain ⟨i119,e41⟩:=one_int t41
 have d41:=piece e41 (rfl:119+1=120)
 obtain ⟨y42,t42,g42⟩:=one 42 4 120 1 rfl
 obtain ⟨b120,e42⟩:=one_bool t42
 have d42:=piece e42 (rfl:120+1=121)
 obtain ⟨y43,t43,g43⟩:=one 43 27 121 7 rfl
 obtain ⟨cond,text,info,infoL,e43,_,_,infoF,infoA⟩:=open_fault t43 (piece_len (by omega))
 have d43:=piece e43 (rfl:121+7=128)
 have dz:cs.drop 128=[]:=List.drop_eq_nil_of_le (by omega)
 have hcs:cs=cs.drop 0:=rfl
 rw [d0,d1,d2,d3,d4,d5,d6,d7,d8,d9,d10,d11,d12,d13,d14,d15,d16,d17,d18,d19,d20,d21,d22,d23,d24,d25,d26,d27,d28,d29,d30,d31,d32,d33,d34,d35,d36,d37,d38,d39,d40,d41,d42,d43,dz] at hcs
 refine ⟨⟨i0,s1,s2,i3,i4,i5,props,i11,i12,i13,i14,i15,i16,s17,i18,b19,i20,i21,src,tgt,uns,b81,i82,i83,i84,i85,i86,b87,b88,i89,b90,s91,i92,b93,b94,b95,b96,b97,b98,state,i118,i119,b120,cond,text,info⟩,⟨propsL,srcS,tgtS,unsV,stateI,stateN,stateV,infoL⟩,hcs.trans rfl,?_,ys.map (·.1),y18.1,y19.1,by rw [hy],by rw [List.getElem?_map,g18];rfl,by rw [List.getElem?_map,g19];rfl,srcM,tgtM⟩
 have hn1:n'≤n:=by omega
 exact ⟨propsF,infoF,stateF,propsA.mono hn1,srcA.mono hn1 hn1,tgtA.mono hn1 hn1,unsA.mono hn1 hn1,stateA.mono hn1,stateB.mono hn1,stateC.mono hn1 hn1,infoA.mono hn1⟩
theorem open_argP {r:Reach} {b0:Nat} {v:Value} {d:DataW H} {p:List MemPlace} (hv:Value.okWide Tryz.prog w r b0 36 v) (h:DataW.Trod enc Tryz.prog w base spare held 36 v d p):∃ n t s,v=PT.agg t s∧PAt w.heap.size n n w t s∧PmL d t:=by
 obtain ⟨cs,rfl,hsz⟩:=okWide_struct underP hv
 obtain ⟨fuel,hf⟩:=h
 have hl:cs.toList.length=128:=by rw [Array.length_toList,hsz];exact cellsP
 obtain ⟨t,s,hcs,hp,hm⟩:=open_perform hf hl
 refine ⟨fuel,t,s,?_,hp,hm⟩
 rw [show cs=(t.cells s).toArray from Array.toList_inj.1 (hcs.trans (by simp))]
theorem bytesStr:Tryz.prog.bytesOf 9=16:=by kernel_rfl
def PTx (p:PT):Prop:=p.src.outs.length≤8796093022208∧p.src.caps.length≤8796093022208∧p.tgt.outs.length≤8796093022208∧p.tgt.caps.length≤8796093022208
theorem len_of {d:DataW H} {l:List ByteArray} (h:TxL d l) (hw:∀ n∈d.weights Tryz.prog 31,n≤reachBytes):l.length≤8796093022208:=by
 rcases h with h|⟨el,sp,rfl,h⟩
 ·omega
 ·have h1:=hw ((el.length+sp.length)*Tryz.prog.bytesOf 9) (by simp [DataW.weights,Tryz.underlying31])
  rw [bytesStr] at h1
  have h3:reachBytes=140737488351232:=by decide
  rw [h3] at h1
  omega
theorem term_of {d:DataW H} {t:TT} (h:TmL d t) (hw:∀ n∈d.weights Tryz.prog 33,n≤reachBytes):t.outs.length≤8796093022208∧t.caps.length≤8796093022208:=by
 obtain ⟨parts,y,z,rfl,hy,hz,h1,h2⟩:=h
 have ht:∀ j t o k,([(3,0,1),(9,1,1),(3,2,1),(3,3,1),(3,4,1),(4,5,1),(3,6,1),(9,7,1),(30,8,19),(31,27,1),(31,28,1)]:List (TypeId×Nat×Nat))[j]? =some (t,o,k)→(fieldsT.toList.map (·.type))[j]? =some t:=fun j t o k hx=>by
  obtain ⟨f,hj,rfl,rfl,rfl⟩:=field_gen fieldsT_at j t o k hx
  rw [List.getElem?_map,Array.getElem?_toList,hj];rfl
 have key:∀ (j:Nat) (y:DataW H),(fieldsT.toList.map (·.type))[j]? =some 31→parts[j]? =some y→∀ n∈y.weights Tryz.prog 31,n≤reachBytes:=fun j y ht hp n hn=>hw n (by
  simp only [DataW.weights,underT]
  exact DataW.weights_mem_each ht hp n hn)
 exact ⟨len_of h1 (key 9 y (ht 9 _ _ _ rfl) hy),len_of h2 (key 10 z (ht 10 _ _ _ rfl) hz)⟩
theorem perform_of {d:DataW H} {p:PT} (h:PmL d p) (hw:∀ n∈d.weights Tryz.prog 36,n≤reachBytes):PTx p:=by
 obtain ⟨parts,y,z,rfl,hy,hz,h1,h2⟩:=h
 have ht:∀ j t o k,listP[j]? =some (t,o,k)→(fieldsP.toList.map (·.type))[j]? =some t:=fun j t o k hx=>by
  obtain ⟨f,hj,rfl,rfl,rfl⟩:=field_gen fieldsP_at j t o k hx
  rw [List.getElem?_map,Array.getElem?_toList,hj];rfl
 have key:∀ (j:Nat) (y:DataW H),(fieldsP.toList.map (·.type))[j]? =some 33→parts[j]? =some y→∀ n∈y.weights Tryz.prog 33,n≤reachBytes:=fun j y ht hp n hn=>hw n (by
  simp only [DataW.weights,underP]
  exact DataW.weights_mem_each ht hp n hn)
 obtain ⟨a1,a2⟩:=term_of h1 (key 18 y (ht 18 _ _ _ rfl) hy)
 obtain ⟨a3,a4⟩:=term_of h2 (key 19 z (ht 19 _ _ _ rfl) hz)
 exact ⟨a1,a2,a3,a4⟩
theorem perform_sized {ts:List TypeId} {ds:List (DataW H)} {j:Nat} {d:DataW H} {p:PT} (h:(DataW.weightsEach Tryz.prog ts ds).all (· ≤reachBytes)=true) (ht:ts[j]? =some 36) (hd:ds[j]? =some d) (hm:PmL d p):PTx p:=
 perform_of hm fun n hn=>of_decide_eq_true (List.all_eq_true.1 h _ (DataW.weights_mem_each ht hd n hn))
end
end Go.Proofs.YtfjlnfogbfmpiaaGreatDoor.Va
