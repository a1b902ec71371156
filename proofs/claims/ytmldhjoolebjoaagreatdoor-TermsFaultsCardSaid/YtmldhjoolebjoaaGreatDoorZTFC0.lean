/-
  The texts YF YO Awake8 of this claim, one behind the other.
-/
import Derived.Test.YtmldhjoolebjoaaGreatDoorZTFB9
import Derived.Test.YtmldhjoolebjoaaGreatDoorZTFA1
import Derived.Deep.CutBlock
import Derived.Test.YtmldhjoolebjoaaGreatDoorZTFB0
import Derived.Test.YtmldhjoolebjoaaGreatDoorProg
import Derived.Test.YtmldhjoolebjoaaGreatDoorZTFA9
import Derived.Lib.Space
import Derived.KernelRfl
set_option maxRecDepth 100000
namespace Go.Proofs.YtmldhjoolebjoaaGreatDoor.Va
open Go Go.RowKit Nu Uc Fd Go.Proofs.YtmldhjoolebjoaaGreatDoor.Nm
attribute [-go_sem] Go.Instr.loadAt Go.Instr.storeAt
theorem AY (v:World) (c x:ByteArray) (i:VT) (a:Option Addr) (n d:Nat):∃ V1 V2,v.alloc (.cells #[.string ⟨#[]⟩,.string ⟨#[]⟩,.int .i64 0,.int .u64 0,.string ⟨#[]⟩,.slice none 0 0,.int .i64 0] 27)=V1∧(Instr.storeAt 27 (.pointer (some ⟨v.heap.size,0,none⟩)) (.agg #[.string c,.string x,.int .i64 i.kind,.int .u64 i.num,.string i.text,.slice a n d,.int .i64 i.elem])).run Tryz.prog V1= .ok () V2∧
 eF V2 v.heap.size (oG c x i (.slice a n d))∧Below v.heap.size v V2∧V2.heap.size=v.heap.size+1:=by
 obtain ⟨x1,hz,hb⟩:=aH (w:=v) (W1:=v.alloc (.cells #[.string ⟨#[]⟩,.string ⟨#[]⟩,.int .i64 0,.int .u64 0,.string ⟨#[]⟩,.slice none 0 0,.int .i64 0] 27)) (cs:=oG ⟨#[]⟩ ⟨#[]⟩ ah (.slice none 0 0)) (T:=27) rfl
 refine ⟨_,_,rfl,mY (x1.part (o:=0) (n:=7) (by rw [iA];omega)),x1.all rfl,hb.trans (au (Nat.le_refl _) _ _),?_⟩
 rw [aC];exact hz
theorem Zn (w:World) (T:TypeId):qY QO (w.alloc (.cells #[.slice none 0 0] T)) w.heap.size (.slice none 0 0) []:=by
 obtain ⟨x,hz,_⟩:=aH (w:=w) (cs:=[.slice none 0 0]) (T:=T) rfl
 exact ⟨⟨_,rfl,x.1,x.2⟩,World.ownsRow_nil _ _ _ _,by have:(w.alloc (.cells [Value.slice none 0 0].toArray T)).heap.size=w.heap.size+1:=hz;show w.heap.size<(w.alloc (.cells [Value.slice none 0 0].toArray T)).heap.size;omega⟩
theorem Zo {N B:Nat} {i j:VT} {il jl:Value} {v:World} {T:TypeId} (hf:i.bD) (hf':j.bD) (hl:bR B v N il i.list) (hl':bR B v N jl j.list) (hB:B≤v.heap.size):
 bR (v.heap.size+1) (v.alloc (.cells #[.int .i64 i.kind,.int .u64 i.num,.string i.text,il,.int .i64 i.elem,.int .i64 j.kind,.int .u64 j.num,.string j.text,jl,.int .i64 j.elem] T)) (N+1) (.slice (some ⟨v.heap.size,0,none⟩) 2 2) [i,j]:=by
 have hc':∀ k u,(#[.int .i64 i.kind,.int .u64 i.num,.string i.text,il,.int .i64 i.elem,.int .i64 j.kind,.int .u64 j.num,.string j.text,jl,.int .i64 j.elem]:Array Value)[k]? =some u→(v.alloc (.cells #[.int .i64 i.kind,.int .u64 i.num,.string i.text,il,.int .i64 i.elem,.int .i64 j.kind,.int .u64 j.num,.string j.text,jl,.int .i64 j.elem] T)).cell? ⟨v.heap.size,k,none⟩=some u:=fun k u hu=>by
  rw [World.cell?_alloc_new];exact hu
 have hb:Below v.heap.size v (v.alloc (.cells #[.int .i64 i.kind,.int .u64 i.num,.string i.text,il,.int .i64 i.elem,.int .i64 j.kind,.int .u64 j.num,.string j.text,jl,.int .i64 j.elem] T)):=(Below.refl _ _).alloc (Nat.le_refl _) _
 refine .inr ⟨v.heap.size,0,2,rfl,by omega,(by show 2≤maxLen;decide),fun k t ht=>?_⟩
 match k,ht with
 |0,ht=>
  cases ht
  exact ⟨hf,il,⟨hc' 0 _ rfl,hc' 1 _ rfl,hc' 2 _ rfl,hc' 3 _ rfl,hc' 4 _ rfl⟩,(hl.below (hb.mono hB)).up (by omega)⟩
 |1,ht=>
  cases ht
  exact ⟨hf',jl,⟨hc' 5 _ rfl,hc' 6 _ rfl,hc' 7 _ rfl,hc' 8 _ rfl,hc' 9 _ rfl⟩,(hl'.below (hb.mono hB)).up (by omega)⟩
 |k+2,ht=>simp at ht
def jo (i i' z:VT) (k:Nat):VT:=if k=1 then i' else if k=3 then z else i
def iE (c c':ByteArray) (k:Nat):ByteArray:=if k=1 then c' else c
def bS (A:Except Int VT):VT:=match A with| .ok y=>y| .error _=>ah
def JX (i z:VT) (k:Nat):VT:=if k≤3 then i else z
theorem u7 {w:World} {b o:Nat} {c x:ByteArray} {i:VT} {il:Value} (h:Cells w b o (oG c x i il)):(Instr.loadAt 27 (.pointer (some ⟨b,o,none⟩))).run Tryz.prog w= .ok (.agg #[.string c,.string x,.int .i64 i.kind,.int .u64 i.num,.string i.text,il,.int .i64 i.elem]) w:=
 Go.run_loadAt_mid w b o 27 (oG c x i il) _ h Tryz.underlying27 rfl (by kernel_rfl)
theorem NH {c x:ByteArray} {i:VT} (h:nodes i≤100000):nodes (bS (eZ c x i))≤300000:=by
 have h0:nodes ah≤300000:=by rw [lT];omega
 unfold eZ
 split
 ·unfold eB
  split
  ·have h1:=sU (zM 3) 29 (bX c x i)
   have h2:aj (bX c x i)≤nodes i+2:=Nat.le_of_eq (uV c x i)
   show nodes (aU 3 29 (bX c x i))≤_
   unfold aU
   omega
  ·exact h0
 ·exact h0
theorem Fv:∀ {n:Nat} {w:World} {v:Value} {ts:List VT} {us:List Value},OL w n v ts us→∀ u∈us,∀ p m c,u= .slice p m c→m≤aj ts
 |0,_,_,_,_,h=>h.elim
 |n+1,w,v,ts,us,h=>by
  intro u hu p m c e
  rcases h with ⟨rfl,rfl,rfl⟩|⟨g,cc,gy,rfl,_,_,_,_,hl,rfl,hel⟩
  ·rw [List.mem_singleton.1 hu] at e
   cases e;exact Nat.zero_le _
  ·rcases List.mem_append.1 hu with hu|hu
   ·obtain ⟨xs,hx,hux⟩:=List.mem_flatten.1 hu
    obtain ⟨i,hi⟩:=List.getElem?_of_mem hx
    obtain ⟨t,ht⟩:∃ t,ts[i]? =some t:=⟨_,List.getElem?_eq_getElem (by have:=(List.getElem?_eq_some_iff.1 hi).1;omega)⟩
    obtain ⟨_,lv,_,ho⟩:=hel i t xs ht hi
    have h1:=Fv ho u hux p m c e
    have h2:=gY (List.mem_of_getElem? ht)
    rw [aX] at h2
    omega
   ·rw [List.mem_singleton.1 hu] at e
    cases e
    exact fZ ts
theorem rF {m:Nat}:∀ {l:List gp},(∀ x∈l,x.2.2.length≤m)→(bN l).length≤l.length*m
 |[],_=>by simp [bN]
 |a::l,h=>by
  have h1:=h a List.mem_cons_self
  have h2:=rF (l:=l) fun x hx=>h x (List.mem_cons_of_mem _ hx)
  have e:bN (a::l)=a.2.2++bN l:=by simp [bN]
  rw [e,List.length_append,List.length_cons,Nat.succ_mul]
  omega
theorem NI {l:List gp} {k:Nat} {x:gp} (h:l[k]? =some x):bN (l.take (k+1))=bN (l.take k)++x.2.2:=by
 unfold bN
 rw [List.map_take,List.map_take]
 exact AX (by rw [List.getElem?_map,h];rfl)
def Sn (A:Except Int VT):Int:=match A with| .ok _=>0| .error e=>e
theorem NJ {A:Except Int VT} {w:World} {r:Ending} {w':World} (h:bG A w r w'):∃ q d us,r= .returned (.tuple #[(bS A).agg (.slice q (bS A).list.length d),.int .i64 (Sn A)])∧(bS A).bD∧OL w' LV (.slice q (bS A).list.length d) (bS A).list us∧ku w.heap.size w'.heap.size us∧aM us∧Below w.heap.size w w':=by
 cases A with
 |ok y=>
  obtain ⟨hb,lv,us,hr,hf,ho,hk,ha⟩:=h
  obtain ⟨q,d,rfl⟩:=ho.slice
  exact ⟨q,d,us,hr,hf,ho,hk,ha,hb⟩
 |error e=>
  obtain ⟨hb,hr⟩:=h
  exact ⟨none,0,[.slice none 0 0],hr,iq,(show OL w' (9999999999999+1) (.slice none 0 0) [] [.slice none 0 0] from OL.nil _ _),ku.none _ _,aM.one _,hb⟩
theorem Fw {A:Except Int VT} {w:World} {r:Ending} {w':World} (h:bY Sl A (ah.agg (.slice none 0 0)) w r w'):∃ q d M,r= .returned (.tuple #[(bS A).agg (.slice q (bS A).list.length d),.int .i64 (Sn A)])∧(bS A).bD∧bu (fun b=>Sl b∨w.heap.size≤b) w' M (.slice q (bS A).list.length d) (bS A).list∧Below w.heap.size w w':=by
 cases A with
 |ok y=>
  obtain ⟨hb,lv,M,hr,hf,ho⟩:=h
  obtain ⟨q,d,rfl⟩:=ho.slice
  exact ⟨q,d,M,hr,hf,ho,hb⟩
 |error e=>
  obtain ⟨hb,hr⟩:=h
  exact ⟨none,0,1,hr,iq,bu.nil 0 _ _,hb⟩
theorem H9 {v:World} {b:Nat} {c x c' x':ByteArray} {i i' z:VT} {p p' q5:Option Addr} {n d n' d' d5:Nat} (h:Cells v b 0 [.string c,.string x,.int .i64 i.kind,.int .u64 i.num,.string i.text,.slice p n d,.int .i64 i.elem,.string c',.string x',.int .i64 i'.kind,.int .u64 i'.num,.string i'.text,(.slice p' n' d'),.int .i64 i'.elem,.string c,.string x,.int .i64 i.kind,.int .u64 i.num,.string i.text,.slice p n d,.int .i64 i.elem,.string c,.string x,.int .i64 z.kind,.int .u64 z.num,.string z.text,.slice q5 n d5,.int .i64 z.elem]) {k:Nat} (hk:k<4):
 Cells v b (k*7) (oG (iE c c' k) (iE x x' k) (jo i i' z k) (if k=1 then .slice p' n' d' else if k=3 then .slice q5 n d5 else .slice p n d)):=by
 have e:(([.string c,.string x,.int .i64 i.kind,.int .u64 i.num,.string i.text,.slice p n d,.int .i64 i.elem,.string c',.string x',.int .i64 i'.kind,.int .u64 i'.num,.string i'.text,(.slice p' n' d'),.int .i64 i'.elem,.string c,.string x,.int .i64 i.kind,.int .u64 i.num,.string i.text,.slice p n d,.int .i64 i.elem,.string c,.string x,.int .i64 z.kind,.int .u64 z.num,.string z.text,.slice q5 n d5,.int .i64 z.elem]:List Value).drop (k*7)).take 7=oG (iE c c' k) (iE x x' k) (jo i i' z k) (if k=1 then .slice p' n' d' else if k=3 then .slice q5 n d5 else .slice p n d):=by
  match k,hk with
  |0,_=>rfl
  |1,_=>rfl
  |2,_=>rfl
  |3,_=>rfl
 intro j u hu
 have hj:j<7:=by have:=(List.getElem?_eq_some_iff.1 hu).1;rwa [iA] at this
 rw [←e,List.getElem?_take_of_lt hj,List.getElem?_drop] at hu
 have:=h _ _ hu
 rwa [Nat.zero_add] at this
theorem NK {W:World} {b:Nat} {c x:ByteArray} {i j:VT} {il:Value} {a:Option Addr} {n d:Nat} (h:eF W b (oG c x i il)):∃ W',(Instr.storeAt 25 (.pointer (some ⟨b,2,none⟩)) (j.agg (.slice a n d))).run Tryz.prog W= .ok () W'∧eF W' b (oG c x j (.slice a n d))∧Below b W W'∧W'.heap.size=W.heap.size∧Apart b (b+1) W W':=by
 refine ⟨_,aD (t:=j) (a:=a) (n:=n) (c:=d) (h.part (o:=2) (n:=5) (by rw [iA];omega)),?_,au (Nat.le_refl _) _ _,aC _ _ _ _,eP (Nat.le_refl _) (Nat.lt_succ_self _) _ _ _ (Apart.refl _ _ _)⟩
 refine h.set (o:=2) (by rw [iA];show 2+5≤7;omega) rfl (fun k u hu=>?_) (fun k hk=>?_)
 ·rw [show 2+k=k+2 by omega];exact hu
 ·match k,hk with
  |0,_=>rfl
  |1,_=>rfl
  |k+2,h=>
   have h:2+5≤k+2:=by rcases h with h|h;omega;exact h
   rw [List.getElem?_eq_none (by rw [iA];omega),List.getElem?_eq_none (by rw [iA];omega)]
set_option maxHeartbeats 8000000 in
theorem NR {N:Nat} (c x:ByteArray) (i:VT) (il:Value) (c' x':ByteArray) (i':VT) (il':Value) (w:World) (hE:Env w) (hc:c.size≤maxLen) (hx:x.size≤maxLen) (hf:i.bD) (hl:bR w.heap.size w N il i.list) (hc':c'.size≤maxLen) (hx':x'.size≤maxLen) (hf':i'.bD) (hl':bR w.heap.size w N il' i'.list)
 (hAw:∀ v,Below w.heap.size w v→Calls Tryz.prog 4 #[] v fun r w'=>r= .returned (.bool true)∧Below v.heap.size v w'):
 Calls Tryz.prog 3 #[.agg #[.string c,.string x,.int .i64 i.kind,.int .u64 i.num,.string i.text,il,.int .i64 i.elem],.agg #[.string c',.string x',.int .i64 i'.kind,.int .u64 i'.num,.string i'.text,il',.int .i64 i'.elem]] w fun r w'=>r= .returned (.bool true)∧Below w.heap.size w w':=by
 obtain ⟨p,d,rfl⟩:=hl.slice
 obtain ⟨p',d',rfl⟩:=hl'.slice
 obtain ⟨n,hn⟩:∃ n,i.list.length=n:=⟨_,rfl⟩
 obtain ⟨n',hn'⟩:∃ n,i'.list.length=n:=⟨_,rfl⟩
 rw [hn] at hl ⊢
 rw [hn'] at hl' ⊢
 have HN:=ajd hn
 have HN':=ajd hn'
 obtain ⟨W1,hW1⟩:∃ W1,(w.alloc (.cells #[.string c,.string x,.int .i64 i.kind,.int .u64 i.num,.string i.text,.slice p n d,.int .i64 i.elem] 27)).alloc (.cells #[.string c',.string x',.int .i64 i'.kind,.int .u64 i'.num,.string i'.text,(.slice p' n' d'),.int .i64 i'.elem] 27)=W1:=⟨_,rfl⟩
 obtain ⟨x1,x2,hz1,hb1⟩:=bK (cs:=oG c x i (.slice p n d)) (ds:=oG c' x' i' (.slice p' n' d')) hW1
 have HK:Hid (∀ v,Below (w.heap.size+2) W1 v→Cells v w.heap.size 0 (oG c x i (.slice p n d))∧Cells v (w.heap.size+1) 0 (oG c' x' i' (.slice p' n' d'))∧bR w.heap.size v N (.slice p n d) i.list∧bR w.heap.size v N (.slice p' n' d') i'.list∧Env v∧Below w.heap.size w v∧w.heap.size+2≤v.heap.size):=fun v hv=>by
  have hb:=hb1.trans (hv.mono (by omega))
  exact ⟨(x1.below hv (by omega)).1,(x2.below hv (by omega)).1,hl.below hb,hl'.below hb,hE.below hb,hb,by have:=hv.size;omega⟩
 have HF:Hid ((c.size≤maxLen∧x.size≤maxLen∧i.bD)∧c'.size≤maxLen∧x'.size≤maxLen∧i'.bD):=⟨⟨hc,hx,hf⟩,hc',hx',hf'⟩
 have HAW:=ajd (hAw W1 hb1)
 clear hE hc hx hf hl hc' hx' hf' hl' hAw x1 x2 hb1
 go_enter Tryz.func3,Tryz.ntmps3
 go_wp2_with (fail)
 clear hW1
 refine HAW.out.mono ?_
 rintro r w2 ⟨rfl,hb2⟩
 have B2:=ajd (hb2.mono (Nat.le_of_eq hz1.symm))
 obtain ⟨k1,k2,o1,o2,e2,bw2,z2⟩:=HK.out w2 B2.out
 have l1:=ag (gm k1)
 have l2:=ag (gm k2)
 obtain ⟨W3,hW3⟩:∃ W3,w2.alloc (.cells #[.int .i64 i.kind,.int .u64 i.num,.string i.text,.slice p n d,.int .i64 i.elem,.int .i64 i'.kind,.int .u64 i'.num,.string i'.text,(.slice p' n' d'),.int .i64 i'.elem] 25)=W3:=⟨_,rfl⟩
 have hb3:Below w2.heap.size w2 W3:=by rw [←hW3];exact (Below.refl _ _).alloc (Nat.le_refl _) _
 have z3:W3.heap.size=w2.heap.size+1:=by rw [←hW3];exact aO _ _
 have HG:Hid (Calls Tryz.prog 5 #[.slice (some ⟨w2.heap.size,0,none⟩) 2 2] W3 fun r w'=>r= .returned (.bool (decide (100000<qK [i,i'] 0)))∧Below W3.heap.size W3 w'):=by
  have:=Zo (T:=25) HF.out.1.2.2 HF.out.2.2.2 o1 o2 (by omega)
  rw [hW3] at this
  exact JW this (by omega)
 have B3:=ajd (B2.out.trans (hb3.mono (by omega)))
 clear k1 k2 o1 o2 e2 bw2 hb2 HAW hb3
 go_wp2_with (fail)
 clear l1 l2 hW3
 refine HG.out.mono ?_
 rintro r w4 ⟨rfl,hb4⟩
 have B4:=ajd (B3.out.trans (hb4.mono (by omega)))
 clear hb4 HG B2 B3
 by_cases hg:100000<qK [i,i'] 0
 ·have hgd:decide (100000<qK [i,i'] 0)=true:=decide_eq_true hg
  have EF:=ajd (HK.out w4 B4.out).2.2.2.2.2.1
  rw [hgd]
  go_wp2
  go_ret
  exact ⟨rfl,EF.out⟩
 have hgd:decide (100000<qK [i,i'] 0)=false:=decide_eq_false hg
 have HSM:Hid (VZ i.list∧nodes i≤100000∧nodes i'≤100000):=by
  have hs:VZ [i,i']:=⟨0,by omega⟩
  have hn:=KY hg
  rw [aj,aj,aj] at hn
  exact ⟨hs.child (k:=0) rfl,by omega,by omega⟩
 rw [hgd]
 clear hg hgd
 obtain ⟨k1,k2,o1,o2,e4,bw4,z4⟩:=HK.out w4 B4.out
 have l1:=cK k1
 have gL:=ajd (Fh (N:=N) (B:=w.heap.size) c x i (.slice p n d) w4 o1 HSM.out.1 (by omega))
 rw [HN.out] at gL
 clear k1 k2 o1 o2 e4 bw4
 go_wp2_with (fail)
 clear l1
 refine gL.out.mono ?_
 rintro r w5 ⟨bx,rfl,hL5,hb5⟩
 obtain ⟨V1,V2,hV1,st1,kx,kb2,kz2⟩:=AY w5 c x i (some ⟨bx,0,none⟩) n (n+3)
 have z5:=hb5.size
 have B5:=ajd (B4.out.trans (hb5.mono z4))
 have BV2:=ajd (B5.out.trans (kb2.mono (by omega)))
 obtain ⟨k1,k2,o1,o2,e5,bw5,zV⟩:=HK.out V2 BV2.out
 have l1:=cK k1
 obtain ⟨V3,V4,hV3,st3,kt,kb4,kz4⟩:=AY V2 c x i p n d
 have BV4:=ajd (BV2.out.trans (kb4.mono zV))
 obtain ⟨j1,j2,q1,q2,e6,bw6,zV4⟩:=HK.out V4 BV4.out
 have l2:=ag (gm j1)
 have HTU:=ajd (abq N w.heap.size i (.slice p n d) V4 HF.out.1.2.2 q1 (by omega) (by have:=HSM.out.2.1;omega))
 have P5:=ajd (show aW w5 N (w4.heap.size+2) w5.heap.size (jO bx n) i.list∧eF V2 w5.heap.size (oG c x i (jO bx n))∧Below w5.heap.size w5 V2∧V2.heap.size=w5.heap.size+1∧eF V4 V2.heap.size (oG c x i (.slice p n d))∧Below V2.heap.size V2 V4∧V4.heap.size=V2.heap.size+1 from ⟨hL5,kx,kb2,kz2,kt,kb4,kz4⟩)
 clear k1 k2 o1 o2 e5 bw5 j1 j2 q1 q2 e6 bw6 hL5 kx kb2 kz2 kt kb4 kz4 hb5 gL
 go_wp2_with (fail)
 clear l1 l2 hV1 st1 hV3 st3
 refine HTU.out.mono ?_
 rintro r w6 ⟨lt,M,rfl,ZF,hb6⟩
 have HZ0:Hid ((fQ i).list=gP i.list∧(fQ i).list.length=n∧(fQ i).bD∧nodes (fQ i)≤100000):=by
  have e:(fQ i).list=gP i.list:=by rw [pW];rfl
  exact ⟨e,by rw [e,iG];exact HN.out,Db HF.out.1.2.2,by rw [Bg];exact HSM.out.2.1⟩
 obtain ⟨z,hz⟩:∃ z,fQ i=z:=⟨_,rfl⟩
 rw [hz] at ZF HZ0 ⊢
 have HZE:=ajd hz
 clear hz
 obtain ⟨q5,d5,rfl⟩:=ZF.slice
 rw [HZ0.out.2.1] at ZF ⊢
 obtain ⟨g1,g2,g3,g4,g5,g6,g7⟩:=P5.out
 have z6:=hb6.size
 obtain ⟨X7,st7,yt,yb7,yz7,ya7⟩:=NK (j:=z) (a:=q5) (n:=n) (d:=d5) (g5.below hb6 (by omega))
 have B7:Below (w.heap.size+2) W1 X7:=(BV4.out.trans (hb6.mono (by omega))).trans (yb7.mono (by omega))
 have hT7:bu (fun b=>V4.heap.size≤b) X7 M (.slice q5 n d5) z.list:=ZF.heap (by omega) fun b hb hlt=>ya7.block b hlt (.inr (by omega))
 have hL7:aW X7 N (w4.heap.size+2) w5.heap.size (jO bx n) i.list:=by
  have h1:=g1.below (Nat.le_refl _) g3
  have h2:=h1.apart (x:=V2.heap.size) (y:=V2.heap.size) (Apart.of_below g6 (Nat.le_refl _)) (by omega) (.inl (by omega))
  have h3:=h2.apart (x:=V4.heap.size) (y:=V4.heap.size) (Apart.of_below hb6 (Nat.le_refl _)) (by omega) (.inl (by omega))
  exact h3.apart ya7 (by omega) (.inl (by omega))
 have kx7:eF X7 w5.heap.size (oG c x i (jO bx n)):=(((g2.below g6 (by omega)).below hb6 (by omega)).heap (ya7.block _ (by omega) (.inl (by omega))))
 obtain ⟨W8,hW8⟩:∃ W8,X7.alloc (.cells #[.slice none 0 0] 35)=W8:=⟨_,rfl⟩
 have af6:qY QO W8 X7.heap.size (.slice none 0 0) []:=by rw [←hW8];exact Zn _ _
 have pM:Below X7.heap.size X7 W8:=by rw [←hW8];exact (Below.refl _ _).alloc (Nat.le_refl _) _
 have z8:W8.heap.size=X7.heap.size+1:=by rw [←hW8];exact aO _ _
 have B8:Below (w.heap.size+2) W1 W8:=B7.trans (pM.mono (by omega))
 obtain ⟨j1,j2,q1,q2,e8,bw8,zV8⟩:=HK.out W8 B8
 have l1:=cK j1
 have l2:=cK j2
 have yt8:=yt.below pM (by omega)
 have l3:=cK yt8.1
 obtain ⟨W9,hW9⟩:∃ W9,W8.alloc (.cells #[.string c,.string x,.int .i64 i.kind,.int .u64 i.num,.string i.text,.slice p n d,.int .i64 i.elem,.string c',.string x',.int .i64 i'.kind,.int .u64 i'.num,.string i'.text,(.slice p' n' d'),.int .i64 i'.elem,.string c,.string x,.int .i64 i.kind,.int .u64 i.num,.string i.text,.slice p n d,.int .i64 i.elem,.string c,.string x,.int .i64 z.kind,.int .u64 z.num,.string z.text,.slice q5 n d5,.int .i64 z.elem] 27)=W9:=⟨_,rfl⟩
 obtain ⟨a9,z9,hb9⟩:=aH (cs:=[.string c,.string x,.int .i64 i.kind,.int .u64 i.num,.string i.text,.slice p n d,.int .i64 i.elem,.string c',.string x',.int .i64 i'.kind,.int .u64 i'.num,.string i'.text,(.slice p' n' d'),.int .i64 i'.elem,.string c,.string x,.int .i64 i.kind,.int .u64 i.num,.string i.text,.slice p n d,.int .i64 i.elem,.string c,.string x,.int .i64 z.kind,.int .u64 z.num,.string z.text,.slice q5 n d5,.int .i64 z.elem]) hW9
 have B9:Below (w.heap.size+2) W1 W9:=B8.trans (hb9.mono (by omega))
 have HS9:Hid (aW W9 N (w4.heap.size+2) w5.heap.size (jO bx n) i.list∧eF W9 w5.heap.size (oG c x i (jO bx n))∧eF W9 V2.heap.size (oG c x z (.slice q5 n d5))∧bu (fun b=>V4.heap.size≤b∧b<X7.heap.size) W9 M (.slice q5 n d5) z.list∧qY QO W9 X7.heap.size (.slice none 0 0) []∧eF W9 W8.heap.size [.string c,.string x,.int .i64 i.kind,.int .u64 i.num,.string i.text,.slice p n d,.int .i64 i.elem,.string c',.string x',.int .i64 i'.kind,.int .u64 i'.num,.string i'.text,(.slice p' n' d'),.int .i64 i'.elem,.string c,.string x,.int .i64 i.kind,.int .u64 i.num,.string i.text,.slice p n d,.int .i64 i.elem,.string c,.string x,.int .i64 z.kind,.int .u64 z.num,.string z.text,.slice q5 n d5,.int .i64 z.elem]∧Below (w.heap.size+2) W1 W9):=by
  refine ⟨(hL7.apart (x:=X7.heap.size) (y:=X7.heap.size) (Apart.of_below pM (Nat.le_refl _)) (by omega) (.inl (by omega))).apart (x:=W8.heap.size) (y:=W8.heap.size) (Apart.of_below hb9 (Nat.le_refl _)) (by omega) (.inl (by omega)),(kx7.below pM (by omega)).below hb9 (by omega),yt8.below hb9 (by omega),((hT7.weak fun b hb hlt=>⟨hb,hlt⟩).below pM).below hb9,af6.below hb9,a9,B9⟩
 have HZS:Hid (w.heap.size+2≤w4.heap.size∧w4.heap.size≤w5.heap.size∧V2.heap.size=w5.heap.size+1∧V4.heap.size=V2.heap.size+1∧V4.heap.size≤w6.heap.size∧X7.heap.size=w6.heap.size∧W8.heap.size=X7.heap.size+1∧W9.heap.size=W8.heap.size+1):=⟨z4,z5,g4,g7,z6,yz7,z8,z9⟩
 clear af6 pM z8 B8 j1 j2 q1 q2 e8 bw8 zV8 yt8 a9 z9 hb9 B9 hT7 hL7 kx7 yt yb7 ya7 B7 g1 g2 g3 g4 g5 g6 g7 z6 yz7 ZF hb6 z5 zV zV4 P5 HTU
 obtain ⟨ST,hST⟩:∃ ST:Nat→World→Prop,∀ k v,ST k v↔(aW v N (w4.heap.size+2) w5.heap.size (jO bx n) (JX i z k).list∧eF v w5.heap.size (oG c x (JX i z k) (jO bx n))∧eF v V2.heap.size (oG c x z (.slice q5 n d5))∧bu (fun b=>V4.heap.size≤b∧b<X7.heap.size) v M (.slice q5 n d5) z.list∧qY QO v X7.heap.size (.slice none 0 0) []∧eF v W8.heap.size [.string c,.string x,.int .i64 i.kind,.int .u64 i.num,.string i.text,.slice p n d,.int .i64 i.elem,.string c',.string x',.int .i64 i'.kind,.int .u64 i'.num,.string i'.text,(.slice p' n' d'),.int .i64 i'.elem,.string c,.string x,.int .i64 i.kind,.int .u64 i.num,.string i.text,.slice p n d,.int .i64 i.elem,.string c,.string x,.int .i64 z.kind,.int .u64 z.num,.string z.text,.slice q5 n d5,.int .i64 z.elem]∧Below (w.heap.size+2) W1 v∧W9.heap.size≤v.heap.size):=⟨fun k v=>aW v N (w4.heap.size+2) w5.heap.size (jO bx n) (JX i z k).list∧eF v w5.heap.size (oG c x (JX i z k) (jO bx n))∧eF v V2.heap.size (oG c x z (.slice q5 n d5))∧bu (fun b=>V4.heap.size≤b∧b<X7.heap.size) v M (.slice q5 n d5) z.list∧qY QO v X7.heap.size (.slice none 0 0) []∧eF v W8.heap.size [.string c,.string x,.int .i64 i.kind,.int .u64 i.num,.string i.text,.slice p n d,.int .i64 i.elem,.string c',.string x',.int .i64 i'.kind,.int .u64 i'.num,.string i'.text,(.slice p' n' d'),.int .i64 i'.elem,.string c,.string x,.int .i64 i.kind,.int .u64 i.num,.string i.text,.slice p n d,.int .i64 i.elem,.string c,.string x,.int .i64 z.kind,.int .u64 z.num,.string z.text,.slice q5 n d5,.int .i64 z.elem]∧Below (w.heap.size+2) W1 v∧W9.heap.size≤v.heap.size,fun _ _=>Iff.rfl⟩
 have adC:Hid (∀ k v v',ST k v→Below v.heap.size v v'→ST k v'):=fun k v v' h hb=>by
  rw [hST] at h ⊢
  obtain ⟨s1,s2,s3,s4,s5,s6,s7,s8⟩:=h
  have hz:=HZS.out
  have hzv:=hb.size
  exact ⟨s1.apart (x:=v.heap.size) (y:=v.heap.size) (Apart.of_below hb (Nat.le_refl _)) (by omega) (.inl (by omega)),s2.below hb (by omega),s3.below hb (by omega),s4.below hb,s5.below hb,s6.below hb (by omega),s7.trans (hb.mono (by omega)),by omega⟩
 have aiU:Hid (∀ k v v',ST k v→Below W9.heap.size v v'→ST k v'):=fun k v v' h hb=>by
  rw [hST] at h ⊢
  obtain ⟨s1,s2,s3,s4,s5,s6,s7,s8⟩:=h
  have hz:=HZS.out
  have hzv:=hb.size
  have ha:Apart W9.heap.size v.heap.size v v':=⟨hb.os,hb.tape,hb.output,hb.size,fun b h1 h2=>hb.block b (by omega)⟩
  refine ⟨s1.apart ha (by omega) (.inl (by omega)),s2.below hb (by omega),s3.below hb (by omega),s4.heap hzv (fun b hb2 _=>hb.block b (by omega)),?_,s6.below hb (by omega),s7.trans (hb.mono (by omega)),by omega⟩
  obtain ⟨cs,ecs,g1,g2⟩:=s5.box
  have he:=hb.block X7.heap.size (by omega)
  exact ⟨⟨cs,ecs,fun j u hu=>(World.cell?_of_block (a:=⟨X7.heap.size,_,none⟩) he).trans (g1 j u hu),dQ g2 he⟩,World.ownsRow_nil _ _ _ _,by omega⟩
 have aiW:Hid (ST 0 W9):=by
  show ST 0 W9
  rw [hST]
  obtain ⟨s1,s2,s3,s4,s5,s6,s7⟩:=HS9.out
  exact ⟨s1,s2,s3,s4,s5,s6,s7,Nat.le_refl _⟩
 have JY:=ajd hST
 clear hST HS9
 go_wp2
 go_loopw [11,12] (fun gv iv wr=>∃ (k:Nat) (items:List gp),iv= .int .i64 k∧k≤4∧items.length=k∧Hid (∀ (j:Nat) (it:gp),items[j]? =some it→it.1=bS (eZ (iE c c' j) (iE x x' j) (jo i i' z j)))∧Hid (fI W9.heap.size 25 wr items gv wr)∧Hid (ST k wr)) (fun _ iv _=>4-(intOf iv).toNat)
 case atStart=>exact ⟨0,[],rfl,by omega,rfl,(fun j it h=>by simp at h),fI.start W9,aiW⟩
 case round=>
  obtain ⟨k,items,rfl,hk,hil,VS,gK,HS⟩:=hrel
  by_cases hlt:k<4
  ·obtain ⟨s1,s2,s3,s4,s5,s6,s7,s8⟩:=(JY.out k wr).1 HS.out
   obtain ⟨j1,j2,o1,o2,e0,bw,zz⟩:=HK.out wr s7
   have hz:=HZS.out
   have VD:JX i z k=i:=if_pos (by omega)
   rw [VD] at s1 s2
   have hk4:(k:Int)<4:=by omega
   obtain ⟨U1,U2,hU1,ust,uy,ub,uz⟩:=AY wr c x i (some ⟨bx,0,none⟩) n (n+3)
   have lx:=cK s2.1
   have HS2:=ajd (adC.out k wr U2 HS.out ub)
   have key:k=1∨k=3∨(k≠1∧k≠3):=by omega
   rcases key with hk1|hk3|⟨hk1,hk3⟩
   case' inl=>
    have b1:((k:Int)==1)=true:=beq_iff_eq.2 (by omega)
    have b3:((k:Int)==3)=false:=beq_eq_false_iff_ne.2 (by omega)
    have lg:=cK (show Cells U2 (w.heap.size+1) 0 (oG c' x' i' (.slice p' n' d')) from (j2.below ub (by omega)))
    have adD:=mY (c:=c') (x:=x') (i:=i') (a:=p') (n:=n') (d:=d') (uy.part (o:=0) (n:=7) (by rw [iA];omega))
    have uy2:=uy.all (vs:=oG c' x' i' (.slice p' n' d')) rfl
    obtain ⟨U3,hU3⟩:∃ U3,U2.setCells wr.heap.size 0 (oG c' x' i' (.slice p' n' d'))=U3:=⟨_,rfl⟩
    rw [hU3] at adD uy2
    have hz3:U3.heap.size=U2.heap.size:=by rw [←hU3];exact aC _ _ _ _
    have hb3:Below wr.heap.size wr U3:=by rw [←hU3];exact ub.trans (au (Nat.le_refl _) _ _)
    obtain ⟨V,hV⟩:∃ V,U3=V:=⟨_,rfl⟩
    have HYS:Hid (∃ (qy:Option Addr) (ny dy:Nat),eF V wr.heap.size (oG (iE c c' k) (iE x x' k) (jo i i' z k) (.slice qy ny dy))∧bR V.heap.size V N (.slice qy ny dy) (jo i i' z k).list∧ST (k+1) V∧fI W9.heap.size 25 V items u11 V∧wr.heap.size<V.heap.size):=by
     have e1:iE c c' k=c':=if_pos hk1
     have e2:iE x x' k=x':=if_pos hk1
     have e3:jo i i' z k=i':=if_pos hk1
     have hcu:JX i z (k+1)=i:=if_pos (by omega)
     have hS:=adC.out k wr U3 HS.out hb3
     rw [←hV]
     refine ⟨p',n',d',by rw [e1,e2,e3];exact uy2,?_,?_,gK.out.agree hb3.size (fun b _ hb=>hb3.block b hb),by omega⟩
     ·rw [e3]
      exact (o2.below (hb3.mono (by omega))).up (by omega)
     ·rw [JY.out] at hS ⊢
      rw [hcu]
      rw [VD] at hS
      exact hS
    rw [hV] at adD
    clear hk1 VD uz hV uy uy2 ub s1 s2 s3 s4 s5 s6 HS2 hz hU3 hz3 hb3
    go_upto_region 23 with (fail)
    clear lx lg hU1 ust adD b1 b3
   case' inr.inl=>
    have b1:((k:Int)==1)=false:=beq_eq_false_iff_ne.2 (by omega)
    have b3:((k:Int)==3)=true:=beq_iff_eq.2 (by omega)
    have x2:=s2.below ub (by omega)
    have t2:=s3.below ub (by omega)
    have lx5:=aF (x2.cell (j:=5) rfl)
    have lt5:=aF (t2.cell (j:=5) rfl)
    have hl2:aW U2 N (w4.heap.size+2) w5.heap.size (jO bx n) i.list:=s1.apart (x:=wr.heap.size) (y:=wr.heap.size) (Apart.of_below ub (Nat.le_refl _)) (by omega) (.inl (by omega))
    have ht2:bu (fun b=>b<w4.heap.size+2∨w5.heap.size≤b) U2 M (.slice q5 n d5) (gP i.list):=by
     rw [←HZ0.out.1]
     exact (s4.below ub).weak fun b hb _=> .inr (by omega)
    have HOV:=ajd (af0 N M (w4.heap.size+2) w5.heap.size i.list (jO bx n) (.slice q5 n d5) U2 hl2 ht2 (by omega))
    have UB:=ajd ub
    have UZ:=ajd uz
    have UY:=ajd uy
    have HKK:=ajd hk3
    clear hk3 VD uz hl2 ht2 hz
    go_wp2_with (fail)
    clear lx lx5 lt5 hU1 ust
    refine HOV.out.mono ?_
    rintro r U3 ⟨rfl,hl3,Ta⟩
    have hz3:=Ta.size
    have uz:=UZ.out
    have hz:=HZS.out
    have x3:=x2.heap (Ta.block _ (by omega) (.inr (by omega)))
    have t3:=t2.heap (Ta.block _ (by omega) (.inr (by omega)))
    have y3:=UY.out.heap (Ta.block _ (by omega) (.inr (by omega)))
    have lz:=H7 (t3.cell (j:=3) rfl)
    have sz:=Ff (n:=z.num) (x3.part (o:=3) (n:=1) (by rw [iA];omega))
    obtain ⟨U4,hU4⟩:∃ U4,U3.setCells w5.heap.size 3 [.int .u64 z.num]=U4:=⟨_,rfl⟩
    have x4:eF U4 w5.heap.size (oG c x z (jO bx n)):=by
     have zk:z.kind=i.kind∧z.text=i.text∧z.elem=i.elem:=by rw [←HZE.out,pW];exact ⟨rfl,rfl,rfl⟩
     rw [←hU4]
     refine x3.set (o:=3) (by rw [iA];show 3+1≤7;omega) rfl (fun j u hu=>?_) (fun j hj=>?_)
     ·match j,hu with
      |0,hu=>exact hu
     ·match j,hj with
      |0,_=>rfl
      |1,_=>rfl
      |2,_=>show some (Value.int .i64 z.kind)=some (Value.int .i64 i.kind);rw [zk.1]
      |3,h=>simp at h
      |4,_=>show some (Value.string z.text)=some (Value.string i.text);rw [zk.2.1]
      |5,_=>rfl
      |6,_=>show some (Value.int .i64 z.elem)=some (Value.int .i64 i.elem);rw [zk.2.2]
      |j+7,_=>rfl
    have a4:Apart w5.heap.size (w5.heap.size+1) U3 U4:=by rw [←hU4];exact eP (Nat.le_refl _) (Nat.lt_succ_self _) _ _ _ (Apart.refl _ _ _)
    have z4':U4.heap.size=U3.heap.size:=by rw [←hU4];exact aC _ _ _ _
    rw [hU4] at sz
    have lx4:=cK x4.1
    have y4:=y3.heap (w':=U4) (a4.block _ (by omega) (.inr (by omega)))
    have adE:=mY (c:=c) (x:=x) (i:=z) (a:=some ⟨bx,0,none⟩) (n:=n) (d:=n+3) (y4.part (o:=0) (n:=7) (by rw [iA];omega))
    have y5:=y4.all (vs:=oG c x z (jO bx n)) rfl
    have UZ:=ajd uz
    have HS9:Hid (aW U4 N (w4.heap.size+2) w5.heap.size (jO bx n) z.list):=by
     show aW _ _ _ _ _ _
     rw [HZ0.out.1]
     exact hl3.apart a4 (by omega) (.inl (by omega))
    have hkk:=HKK.out
    obtain ⟨U5,hU5⟩:∃ U5,U4.setCells wr.heap.size 0 (oG c x z (jO bx n))=U5:=⟨_,rfl⟩
    rw [hU5] at adE y5
    have z5':U5.heap.size=U4.heap.size:=by rw [←hU5];exact aC _ _ _ _
    have h5:∀ b,b≠wr.heap.size→U5.heap[b]? =U4.heap[b]? :=fun b hb=>by rw [←hU5];exact aA hb _ _
    have hall:∀ b,b<U2.heap.size→b≠wr.heap.size→(b<w4.heap.size+2∨w5.heap.size≤b)→b≠w5.heap.size→U5.heap[b]? =U2.heap[b]? :=fun b h1 h2 h3 h4=>(h5 b h2).trans ((a4.block b (by omega) (by omega)).trans (Ta.block b h1 h3))
    obtain ⟨V,hV⟩:∃ V,U5=V:=⟨_,rfl⟩
    have HYS:Hid (∃ (qy:Option Addr) (ny dy:Nat),eF V wr.heap.size (oG (iE c c' k) (iE x x' k) (jo i i' z k) (.slice qy ny dy))∧bR V.heap.size V N (.slice qy ny dy) (jo i i' z k).list∧ST (k+1) V∧fI W9.heap.size 25 V items u11 V∧wr.heap.size<V.heap.size):=by
     have e1:iE c c' k=c:=if_neg (by omega)
     have e2:iE x x' k=x:=if_neg (by omega)
     have e3:jo i i' z k=z:=by unfold jo;rw [if_neg (by omega),if_pos hkk]
     have hcu:JX i z (k+1)=z:=if_neg (by omega)
     have hl5:aW U5 N (w4.heap.size+2) w5.heap.size (jO bx n) z.list:=HS9.out.apart (x:=wr.heap.size) (y:=wr.heap.size+1) (by rw [←hU5];exact eP (Nat.le_refl _) (Nat.lt_succ_self _) _ _ _ (Apart.refl _ _ _)) (by omega) (.inl (by omega))
     obtain ⟨r1,r2,r3,r4,r5,r6,r7,r8⟩:=(JY.out k U2).1 HS2.out
     have hub:=UB.out.size
     rw [←hV]
     refine ⟨some ⟨bx,0,none⟩,n,n+3,by rw [e1,e2,e3];exact y5,by rw [e3];exact hl5.vX (by omega),?_,gK.out.agree (by omega) (fun b hb1 hb2=>(hall b (by omega) (by omega) (.inr (by omega)) (by omega)).trans (UB.out.block b hb2)),by omega⟩
     rw [JY.out,hcu]
     refine ⟨hl5,x4.heap (h5 _ (by omega)),r3.heap (hall _ (by omega) (by omega) (.inr (by omega)) (by omega)),r4.heap (by omega) (fun b hb hlt=>hall b hlt (by omega) (.inr (by omega)) (by omega)),?_,r6.heap (hall _ (by omega) (by omega) (.inr (by omega)) (by omega)),?_,by omega⟩
     ·obtain ⟨cs,ecs,g1,g2⟩:=r5.box
      have he:=hall X7.heap.size (by omega) (by omega) (.inr (by omega)) (by omega)
      exact ⟨⟨cs,ecs,fun j u hu=>(World.cell?_of_block (a:=⟨X7.heap.size,_,none⟩) he).trans (g1 j u hu),dQ g2 he⟩,World.ownsRow_nil _ _ _ _,by omega⟩
     ·exact (((r7.trans (Ta.below (by omega) (by omega))).trans (a4.below (by omega) (by omega))).trans (by rw [←hU5];exact au (by omega) _ _))
    rw [hV] at adE
    clear hU4 uz hz3 z4' x3 t3 y3 hz hU5 hV z5' h5 hall x4 y4 y5 a4 Ta hl3 x2 t2 UB UZ UY HS9 HS2 HOV s1 s2 s3 s4 s5 s6 hkk HKK
    go_upto_region 23 with (fail)
    clear lz sz lx4 adE b1 b3
   case' inr.inr=>
    have b1:((k:Int)==1)=false:=beq_eq_false_iff_ne.2 (by omega)
    have b3:((k:Int)==3)=false:=beq_eq_false_iff_ne.2 (by omega)
    obtain ⟨V,hV⟩:∃ V,U2=V:=⟨_,rfl⟩
    have HYS:Hid (∃ (qy:Option Addr) (ny dy:Nat),eF V wr.heap.size (oG (iE c c' k) (iE x x' k) (jo i i' z k) (.slice qy ny dy))∧bR V.heap.size V N (.slice qy ny dy) (jo i i' z k).list∧ST (k+1) V∧fI W9.heap.size 25 V items u11 V∧wr.heap.size<V.heap.size):=by
     have e1:iE c c' k=c:=if_neg hk1
     have e2:iE x x' k=x:=if_neg hk1
     have e3:jo i i' z k=i:=by unfold jo;rw [if_neg hk1,if_neg hk3]
     have hcu:JX i z (k+1)=i:=if_pos (by omega)
     have hS:=HS2.out
     rw [←hV]
     refine ⟨some ⟨bx,0,none⟩,n,n+3,by rw [e1,e2,e3];exact uy,?_,?_,gK.out.agree ub.size (fun b _ hb=>ub.block b hb),by omega⟩
     ·rw [e3]
      exact (s1.apart (x:=wr.heap.size) (y:=wr.heap.size) (Apart.of_below ub (Nat.le_refl _)) (by omega) (.inl (by omega))).vX (by omega)
     ·rw [JY.out] at hS ⊢
      rw [hcu]
      rw [VD] at hS
      exact hS
    rw [hV] at ust
    clear VD uz hV uy ub s1 s2 s3 s4 s5 s6 HS2 hz
    go_upto_region 23 with (fail)
    clear lx hU1 ust b1 b3 hk1 hk3
   all_goals
    obtain ⟨qy,ny,dy,Y1,Y2,Y3,Y4,Y5⟩:=HYS.out
    have Y3':=(JY.out (k+1) V).1 Y3
    have NP:Hid ((iE c c' k).size≤maxLen∧(iE x x' k).size≤maxLen∧(jo i i' z k).bD∧nodes (jo i i' z k)≤90000000):=by
     have f:=HF.out
     have h3:=HZ0.out
     have h4:=HSM.out
     refine ⟨?_,?_,?_,?_⟩
     ·unfold iE;split;exact f.2.1;exact f.1.1
     ·unfold iE;split;exact f.2.2.1;exact f.1.2.1
     ·unfold jo;split;exact f.2.2.2;split;exact h3.2.2.1;exact f.1.2.2
     ·unfold jo;split;omega;split;omega;omega
    obtain ⟨cy,hcy⟩:∃ a,iE c c' k=a:=⟨_,rfl⟩
    obtain ⟨xy,hxy⟩:∃ a,iE x x' k=a:=⟨_,rfl⟩
    obtain ⟨iy,hiy⟩:∃ a,jo i i' z k=a:=⟨_,rfl⟩
    rw [hcy,hxy,hiy] at NP Y1
    rw [hiy] at Y2
    have HEV:Hid (Env V):=(HK.out V Y3'.2.2.2.2.2.2.1).2.2.2.2.1
    have ly:=cK Y1.1
    have HPF:=ajd (FY (N:=N) (B:=V.heap.size) cy xy iy (.slice qy ny dy) V HEV.out NP.out.1 NP.out.2.1 NP.out.2.2.1 Y2 (Nat.le_refl _) NP.out.2.2.2)
    have af9:=ajd Y3
    have QS:=ajd Y4
    clear Y1 Y2 Y3 Y3' Y4 HYS gK HS
    go_wp2_with (fail)
    clear ly
    refine HPF.out.mono ?_
    intro r VE bQ
    obtain ⟨A,hA⟩:∃ A,eZ cy xy iy=A:=⟨_,rfl⟩
    rw [hA] at bQ
    obtain ⟨q3,d3,us3,rfl,f3,ol3,bk3,ap3,abx⟩:=NJ bQ
    have HAA:=ajd hA
    clear hA bQ HPF
    obtain ⟨Z1,hZ1⟩:∃ Z1,VE.alloc (.cells #[.int .i64 0,.int .u64 0,.string ⟨#[]⟩,.slice none 0 0,.int .i64 0] 25)=Z1:=⟨_,rfl⟩
    obtain ⟨m1,mz1,mb1⟩:=aH (cs:=ah.cells (.slice none 0 0)) hZ1
    obtain ⟨Z2,zst,m2,mb2,mz2⟩:=fo m1 rfl (bS A) q3 (bS A).list.length d3
    have hbZ:Below VE.heap.size VE Z2:=mb1.trans mb2
    have ai0:=abx.size
    have HBZ:Hid (Below V.heap.size V Z2):=abx.trans (hbZ.mono (by omega))
    have SZ:=(JY.out (k+1) Z2).1 (adC.out (k+1) V Z2 af9.out HBZ.out)
    obtain ⟨y1,y2,v1,v2,hEZ,ZG,zzZ⟩:=HK.out Z2 SZ.2.2.2.2.2.2.1
    have ZH:=H9 (k:=k) SZ.2.2.2.2.2.1.1 hlt
    have wI:w.heap.size≤Z2.heap.size:=ZG.size
    have EJ:∃ qa na da,(if k=1 then Value.slice p' n' d' else if k=3 then Value.slice q5 n d5 else Value.slice p n d)=Value.slice qa na da∧bR Z2.heap.size Z2 (N+M) (.slice qa na da) (jo i i' z k).list:=by
     unfold jo
     split
     ·exact ⟨p',n',d',rfl,(v2.up wI).mono (Nat.le_add_right _ _)⟩
     ·split
      ·exact ⟨q5,n,d5,rfl,SZ.2.2.2.1.vX.mono (Nat.le_add_left _ _)⟩
      ·exact ⟨p,n,d,rfl,(v1.up wI).mono (Nat.le_add_right _ _)⟩
    obtain ⟨qa,na,da,hqa,hla⟩:=EJ
    rw [hqa,hcy,hxy,hiy] at ZH
    rw [hiy] at hla
    have la:=u7 ZH
    have HRF:=ajd (uY (N:=N+M) (B:=Z2.heap.size) cy xy iy (.slice qa na da) Z2 hEZ NP.out.1 NP.out.2.1 NP.out.2.2.1 hla (Nat.le_refl _) NP.out.2.2.2)
    rw [HAA.out] at HRF
    have hk0:(0:Int)≤(k:Int):=by omega
    have ai1:(k:Int)<4:=by omega
    have M2:=ajd m2
    have HBN:Hid (Below VE.heap.size VE Z2∧Below V.heap.size V VE∧Z2.heap.size=VE.heap.size+1):=⟨hbZ,abx,by omega⟩
    clear SZ y1 y2 v1 v2 hEZ ZG zzZ wI hla hqa ZH m1 m2 mb1 mb2 mz1 mz2 hbZ abx ai0
    go_wp2_with (fail)
    clear la hZ1 zst
    refine HRF.out.mono ?_
    intro r ZI bQ
    obtain ⟨q4,d4,M4,rfl,f4,la4,QT⟩:=Fw bQ
    obtain ⟨Z3,hZ3⟩:∃ Z3,ZI.alloc (.cells #[.int .i64 0,.int .u64 0,.string ⟨#[]⟩,.slice none 0 0,.int .i64 0] 25)=Z3:=⟨_,rfl⟩
    obtain ⟨m3,mz3,mb3⟩:=aH (cs:=ah.cells (.slice none 0 0)) hZ3
    obtain ⟨Z4,adG,m4,mb4,mz4⟩:=fo m3 rfl (bS A) q4 (bS A).list.length d4
    have hbn:=HBN.out
    have Zp:=QT.size
    have hzv:=hbn.2.1.size
    have hb4:Below ZI.heap.size ZI Z4:=mb3.trans mb4
    have abz:Below Z2.heap.size Z2 Z4:=QT.trans (hb4.mono Zp)
    have m14:eF Z4 VE.heap.size ((bS A).cells (.slice q3 (bS A).list.length d3)):=M2.out.below abz (by omega)
    have l14:=ag m14.1
    have l16:=ag m4.1
    have adH:Below VE.heap.size VE Z4:=hbn.1.trans (abz.mono (by omega))
    have ol4:=ol3.below adH
    have YK:Hid (Calls Tryz.prog 11 #[(bS A).agg (.slice q3 (bS A).list.length d3),(bS A).agg (.slice q4 (bS A).list.length d4)] Z4 fun r w'=>r= .returned (.bool true)∧Below Z4.heap.size Z4 w'):=by
     have h1:bR Z4.heap.size Z4 (LV+M4) (.slice q3 (bS A).list.length d3) (bS A).list:=ol4.vX.mono (Nat.le_add_right _ _)
     have h2:bR Z4.heap.size Z4 (LV+M4) (.slice q4 (bS A).list.length d4) (bS A).list:=(la4.below hb4).vX.mono (Nat.le_add_left _ _)
     have:=qG (N:=LV+M4) (B:=Z4.heap.size) ⟨f3,_,rfl,h1⟩ ⟨f3,_,rfl,h2⟩ (Nat.le_refl _)
     rw [Co] at this
     exact this
    have OL4:=ajd ol4
    have M14:=ajd m14
    have HBM:Hid (Below Z2.heap.size Z2 Z4∧Below VE.heap.size VE Z4):=⟨abz,adH⟩
    obtain ⟨eV,heV⟩:∃ e,Sn A=e:=⟨_,rfl⟩
    rw [heV]
    clear hbn Zp hzv hb4 abz m14 adH ol4 m3 m4 mb3 mb4 mz3 mz4 la4 QT heV HRF
    go_wp2_with (fail)
    clear l14 l16 hZ3 adG
    refine YK.out.mono ?_
    rintro r w25 ⟨rfl,Zq⟩
    have hbn:=HBN.out
    have hbm:=HBM.out
    have k1:=hbm.1.size
    have k2:=hbm.2.size
    have k3:=hbn.2.1.size
    have k4:=Zq.size
    have age:Below V.heap.size V w25:=(hbn.2.1.trans (hbm.2.mono k3)).trans (Zq.mono (by omega))
    have l14:=ag (M14.out.below Zq (by omega)).1
    obtain ⟨iv0,hv0,hv1,hv2,hv3⟩:=info_parts uL
    have Qp:=ajd (QS.out.keep age)
    have zc:Below w25.heap.size w25 (w25.alloc (.cells #[.int .i64 (bS A).kind,.int .u64 (bS A).num,.string (bS A).text,.slice q3 (bS A).list.length d3,.int .i64 (bS A).elem] 25)):=(Below.refl _ _).alloc (Nat.le_refl _) _
    have zl:=ajd (Qp.out.keep zc)
    obtain ⟨sp,sc,hsp⟩:=QS.out.form
    rw [hsp] at QS Qp zl ⊢
    rw [hil] at QS Qp zl ⊢
    have hrow:=zl.out.row
    rw [hil] at hrow
    have hmx:k+1≤maxLen:=by unfold maxLen;omega
    have hmb:(k+1)*64≤140737488355328:=by omega
    have zm:=zl.out.Bw
    have ES:=ajd hil
    have hza:=zc.size
    have OLW:=ajd ((OL4.out.below Zq).below zc)
    have BKW:=ajd (bk3.mono (Nat.le_refl _) (by omega:VE.heap.size≤(w25.alloc (.cells #[.int .i64 (bS A).kind,.int .u64 (bS A).num,.string (bS A).text,.slice q3 (bS A).list.length d3,.int .i64 (bS A).elem] 25)).heap.size))
    have HLO:Hid (∀ u∈bN items,∀ b,u.ownBlock=some b→b<V.heap.size):=fun u hu b hb=>(QS.out.blk u hu b hb).2
    have HVO:Hid (∀ b,(Value.slice sp k sc).ownBlock=some b→b<V.heap.size):=fun b hb=>(QS.out.iL hb).2
    have gq:Hid (W9.heap.size≤V.heap.size):=QS.out.Bw
    have ai5:Hid (bS A=bS (eZ (iE c c' k) (iE x x' k) (jo i i' z k))):=by show _=_;rw [hcy,hxy,hiy,HAA.out]
    clear hbn hbm k1 k2 k3 k4 age zc hsp hil Zq hza
    go_wp2_with (at_builtin;go_must (refine wpList_append_own_at _ rfl _ _ 23 rfl W9.heap.size 25 iv0 _ 5 64 Tryz.underlying23 hv0 hv1 hv2 hv3 rfl (by decide) (.slice sp k sc) k (bE (fq items)) rfl hrow ⟨w25.heap.size,0,none⟩ 1 1 ((bS A).cells (.slice q3 (bS A).list.length d3)) rfl rfl (pg w25 _ _ _) (pq _ _ _ _) hmx hmb zm ?_;intro v' w6 hown6 gJ qH qI))
    rw [←ES.out] at hown6
    have HPN:=zl.out.push (x:=(bS A,.slice q3 (bS A).list.length d3,us3)) (lo:=V.heap.size) f3 OLW.out BKW.out ap3 HLO.out HVO.out gq.out hown6 gJ qI
    have ai6:=ajd (aiU.out (k+1) V w6 af9.out HPN.below)
    have ai7:=ajd (HPN.agree (Nat.le_refl _) (fun _ _ _=>rfl))
    have ai8:Hid (∀ (j:Nat) (it:gp),(items++[((bS A,.slice q3 (bS A).list.length d3,us3):gp)])[j]? =some it→it.1=bS (eZ (iE c c' j) (iE x x' j) (jo i i' z j))):=fun j it hj=>by
     by_cases hjk:j<items.length
     ·rw [List.getElem?_append_left hjk] at hj;exact VS.out j it hj
     ·have hj1:=(List.getElem?_eq_some_iff.1 hj).1
      rw [List.length_append] at hj1
      have hj1:j<items.length+1:=hj1
      obtain rfl:j=k:=by have:=ES.out;omega
      rw [List.getElem?_append_right (by omega),show j-items.length=0 by omega] at hj
      cases hj
      exact ai5.out
    clear hown6 gJ qH qI hrow zm HPN
    go_roundw
    case rel=>exact ⟨k+1,_,by go_num,by omega,by rw [List.length_append,ES.out];rfl,ai8.out,ai7.out,ai6.out⟩
    case measure=>simp [intOf];omega
  ·obtain rfl:k=4:=by omega
   have SZ:=(JY.out 4 wr).1 HS.out
   have hcu:JX i z 4=z:=if_neg (by omega)
   rw [hcu] at SZ
   have hz:=HZS.out
   have lx:=cK SZ.2.1.1
   have lt:=cK SZ.2.2.1.1
   have HKF:=ajd (Fj (N:=N) (M:=M) (lo:=w4.heap.size+2) (hi:=w5.heap.size) c x z (jO bx n) (.slice q5 n d5) wr SZ.1 (SZ.2.2.2.1.weak fun b hb _=> .inr (by omega)) (by have:=SZ.2.2.2.2.2.2.2;omega))
   clear SZ hcu hz
   go_wp2_with (fail)
   clear lx lt
   refine HKF.out.mono ?_
   rintro r F5 ⟨rfl,QU⟩
   obtain ⟨it0,agf⟩:∃ x,items[0]? =some x:=⟨_,List.getElem?_eq_getElem (by omega)⟩
   obtain ⟨gb,cap,hgv,_⟩:=gK.out.at agf
   have ES:=ajd hil
   rw [hil] at hgv
   subst hgv
   have hz:=HZS.out
   have SZ:=(JY.out 4 wr).1 HS.out
   have z26:=QU.size
   have HPW:Hid (fI W9.heap.size 25 F5 items (.slice (some ⟨gb,0,none⟩) 4 cap) F5):=gK.out.over QU (by omega)
   have ai9:Hid (lW QO F5 X7.heap.size F5.heap.size (.slice none 0 0) []):=lW.of SZ.2.2.2.2.1 (QU.block _ (by omega) (.inr (by omega))) z26
   have aja:Hid (Below (w.heap.size+2) W1 F5):=SZ.2.2.2.2.2.2.1.trans (QU.below (by omega) (by omega))
   have HG:Hid (∀ v,Bk X7.heap.size F5.heap.size F5 v→Env v∧Below w.heap.size w v∧F5.heap.size≤v.heap.size∧(∀ k,k<4→∃ qa na da,Cells v W8.heap.size (k*7) (oG (iE c c' k) (iE x x' k) (jo i i' z k) (.slice qa na da))∧bR v.heap.size v (N+M) (.slice qa na da) (jo i i' z k).list)∧∀ (k:Nat) (it:gp),items[k]? =some it→it.1.bD∧pO v gb (k*5) it.1 it.2.1∧OL v LV it.2.1 it.1.list it.2.2∧∀ u∈it.2.2,∀ b,u.ownBlock=some b→W9.heap.size≤b∧b<F5.heap.size∧b≠X7.heap.size):=fun v hv=>by
    have zv:=hv.size
    have hbv:=aja.out.trans (hv.below (by omega) (by omega))
    obtain ⟨y1,y2,v1,v2,hEZ,ZG,zzZ⟩:=HK.out v hbv
    have cA:eF v W8.heap.size [.string c,.string x,.int .i64 i.kind,.int .u64 i.num,.string i.text,.slice p n d,.int .i64 i.elem,.string c',.string x',.int .i64 i'.kind,.int .u64 i'.num,.string i'.text,(.slice p' n' d'),.int .i64 i'.elem,.string c,.string x,.int .i64 i.kind,.int .u64 i.num,.string i.text,.slice p n d,.int .i64 i.elem,.string c,.string x,.int .i64 z.kind,.int .u64 z.num,.string z.text,.slice q5 n d5,.int .i64 z.elem]:=(SZ.2.2.2.2.2.1.heap (QU.block _ (by omega) (.inr (by omega)))).heap (hv.block _ (by omega) (by omega))
    have cZ:=(SZ.2.2.2.1.heap z26 (fun b hb _=>QU.block b (by omega) (.inr (by omega)))).heap zv (fun b hb _=>hv.block b (by omega) (by omega))
    have wI:w.heap.size≤v.heap.size:=ZG.size
    refine ⟨hEZ,ZG,zv,fun k hk=>?_,fun k it hk=>?_⟩
    ·have ZH:=H9 (k:=k) cA.1 hk
     have EJ:∃ qa na da,(if k=1 then Value.slice p' n' d' else if k=3 then Value.slice q5 n d5 else Value.slice p n d)=Value.slice qa na da∧bR v.heap.size v (N+M) (.slice qa na da) (jo i i' z k).list:=by
      unfold jo
      split
      ·exact ⟨p',n',d',rfl,(v2.up wI).mono (Nat.le_add_right _ _)⟩
      ·split
       ·exact ⟨q5,n,d5,rfl,cZ.vX.mono (Nat.le_add_left _ _)⟩
       ·exact ⟨p,n,d,rfl,(v1.up wI).mono (Nat.le_add_right _ _)⟩
     obtain ⟨qa,na,da,hqa,hla⟩:=EJ
     rw [hqa] at ZH
     exact ⟨qa,na,da,ZH,hla⟩
    ·obtain ⟨gb',cap',e,ha⟩:=HPW.out.at hk
     simp only [Value.slice.injEq,Option.some.injEq,Addr.mk.injEq,and_true] at e
     obtain ⟨rfl, -, -⟩:=e
     have hbq:∀ b,(Value.slice (some ⟨gb,0,none⟩) 4 cap).ownBlock=some b→W9.heap.size≤b∧b<F5.heap.size:=fun b hb=>HPW.out.iL hb
     have hgb:=hbq gb rfl
     have own:=HPW.out.own it (List.mem_of_getElem? hk)
     have blk:∀ u∈it.2.2,∀ b,u.ownBlock=some b→W9.heap.size≤b∧b<F5.heap.size:=fun u hu b hb=>HPW.out.blk u (gZ.2 ⟨it,List.mem_of_getElem? hk,hu⟩) b hb
     exact ⟨own.1,ha.heap (hv.block gb (by omega) (by omega)),own.2.heap zv (fun u hu b hb=>hv.block b (blk u hu b hb).2 (by have:=blk u hu b hb;omega)),fun u hu b hb=>by have:=blk u hu b hb;omega⟩
   have HZ7:Hid (w.heap.size≤X7.heap.size∧X7.heap.size<F5.heap.size∧W8.heap.size<F5.heap.size):=⟨by omega,by have:=SZ.2.2.2.2.2.2.2;omega,by have:=SZ.2.2.2.2.2.2.2;omega⟩
   clear SZ hz z26 QU hil agf HKF HS
   have abA:Hid (∀ it∈items,aj it.1.list≤300000∧it.2.2.length≤300001):=fun it hit=>by
    obtain ⟨j,hj⟩:=List.getElem?_of_mem hit
    have e:=VS.out j it hj
    have h1:nodes (bS (eZ (iE c c' j) (iE x x' j) (jo i i' z j)))≤300000:=NH (by
     have h3:=HZ0.out
     have h4:=HSM.out
     unfold jo;split;omega;split;omega;omega)
    rw [←e,aX] at h1
    have h2:=zC (HPW.out.own it hit).2
    omega
   go_wp2
   go_loopw [20] (fun iv wr=>∃ k:Nat,iv= .int .i64 k∧k≤4∧Hid (Bk X7.heap.size F5.heap.size F5 wr)∧Hid (∃ bv,lW QO wr X7.heap.size F5.heap.size bv (bN (items.take k)))) (fun iv _=>4-(intOf iv).toNat)
   case atStart=>exact ⟨0,rfl,by omega,Bk.refl _ _ _,_,ai9.out⟩
   case round=>
    obtain ⟨k,rfl,hk,HBQ,HQ⟩:=hrel
    by_cases hlt:k<4
    ·obtain ⟨hEZ,ZG,zv,hA,hI⟩:=HG.out wr HBQ.out
     obtain ⟨qa,na,da,ZH,hla⟩:=hA k hlt
     obtain ⟨it,hit⟩:∃ x,items[k]? =some x:=⟨_,List.getElem?_eq_getElem (by rw [ES.out];exact hlt)⟩
     have HAK:=VS.out k it hit
     obtain ⟨hfi,hat,hol,hub⟩:=hI k it hit
     have hml:=abA.out it (List.mem_of_getElem? hit)
     have HIT:=ajd hit
     obtain ⟨t,lv,us⟩:=it
     dsimp only at HAK hfi hat hol hub hml
     have NP:Hid ((iE c c' k).size≤maxLen∧(iE x x' k).size≤maxLen∧(jo i i' z k).bD∧nodes (jo i i' z k)≤90000000):=by
      have f:=HF.out
      have h3:=HZ0.out
      have h4:=HSM.out
      refine ⟨?_,?_,?_,?_⟩
      ·unfold iE;split;exact f.2.1;exact f.1.1
      ·unfold iE;split;exact f.2.2.1;exact f.1.2.1
      ·unfold jo;split;exact f.2.2.2;split;exact h3.2.2.1;exact f.1.2.2
      ·unfold jo;split;omega;split;omega;omega
     obtain ⟨cy,hcy⟩:∃ a,iE c c' k=a:=⟨_,rfl⟩
     obtain ⟨xy,hxy⟩:∃ a,iE x x' k=a:=⟨_,rfl⟩
     obtain ⟨iy,hiy⟩:∃ a,jo i i' z k=a:=⟨_,rfl⟩
     rw [hcy,hxy,hiy] at NP HAK ZH
     rw [hiy] at hla
     have la:=u7 ZH
     have HRF:=ajd (uY (N:=N+M) (B:=wr.heap.size) cy xy iy (.slice qa na da) wr hEZ NP.out.1 NP.out.2.1 NP.out.2.2.1 hla (Nat.le_refl _) NP.out.2.2.2)
     obtain ⟨A,VO⟩:∃ A,eZ cy xy iy=A:=⟨_,rfl⟩
     rw [VO] at HRF HAK
     subst HAK
     obtain ⟨q3,d3,rfl⟩:=hol.slice
     have hk0:(0:Int)≤(k:Int):=by omega
     have ai1:(k:Int)<4:=by omega
     have HIV:Hid (pO wr gb (k*5) (bS A) (.slice q3 (bS A).list.length d3)∧OL wr LV (.slice q3 (bS A).list.length d3) (bS A).list us∧(bS A).bD∧(∀ u∈us,∀ b,u.ownBlock=some b→W9.heap.size≤b∧b<F5.heap.size∧b≠X7.heap.size)∧aj (bS A).list≤300000∧gb<wr.heap.size):=⟨hat,hol,hfi,hub,hml.1,Nat.lt_of_lt_of_le (HPW.out.iL (b:=gb) rfl).2 zv⟩
     clear hEZ ZG hA hI ZH hla hit hfi hat hol hub hml VO hcy hxy hiy
     go_wp2_with (fail)
     clear la
     refine HRF.out.mono ?_
     intro r ZI bQ
     obtain ⟨q4,d4,M4,rfl,f4,la4,QT⟩:=Fw bQ
     obtain ⟨Z3,hZ3⟩:∃ Z3,ZI.alloc (.cells #[.int .i64 0,.int .u64 0,.string ⟨#[]⟩,.slice none 0 0,.int .i64 0] 25)=Z3:=⟨_,rfl⟩
     obtain ⟨m3,mz3,mb3⟩:=aH (cs:=ah.cells (.slice none 0 0)) hZ3
     obtain ⟨Z4,adG,m4,mb4,mz4⟩:=fo m3 rfl (bS A) q4 (bS A).list.length d4
     have Zp:=QT.size
     have hb4:Below ZI.heap.size ZI Z4:=mb3.trans mb4
     have HBZ:Hid (Below wr.heap.size wr Z4):=QT.trans (hb4.mono Zp)
     have la5:=(la4.below hb4).vX
     have abl:ZI.heap.size<Z4.heap.size:=by omega
     have Vu:Hid (∀ v,Below Z4.heap.size Z4 v→Below Z4.heap.size Z4 v∧(Instr.loadAt 25 (.pointer (some ⟨gb,k*5,none⟩))).run Tryz.prog v= .ok ((bS A).agg (.slice q3 (bS A).list.length d3)) v∧(Instr.loadAt 25 (.pointer (some ⟨ZI.heap.size,0,none⟩))).run Tryz.prog v= .ok ((bS A).agg (.slice q4 (bS A).list.length d4)) v):=fun v h=>
      ⟨h,ag (dW (HIV.out.1.heap ((h.block gb (by have:=HIV.out.2.2.2.2.2;omega)).trans (HBZ.out.block gb HIV.out.2.2.2.2.2)))),ag (m4.below h abl).1⟩
     have YK:Hid (∀ v,Below Z4.heap.size Z4 v→Calls Tryz.prog 11 #[(bS A).agg (.slice q3 (bS A).list.length d3),(bS A).agg (.slice q4 (bS A).list.length d4)] v fun r w'=>r= .returned (.bool true)∧Below v.heap.size v w'):=fun v h=>by
      have h1:bR v.heap.size v (LV+M4) (.slice q3 (bS A).list.length d3) (bS A).list:=(((HIV.out.2.1.below HBZ.out).below h).vX).mono (Nat.le_add_right _ _)
      have h2:bR v.heap.size v (LV+M4) (.slice q4 (bS A).list.length d4) (bS A).list:=((la5.below h).up h.size).mono (Nat.le_add_left _ _)
      have:=qG (N:=LV+M4) (B:=v.heap.size) ⟨f4,_,rfl,h1⟩ ⟨f4,_,rfl,h2⟩ (Nat.le_refl _)
      rw [Co] at this
      exact this
     obtain ⟨eV,heV⟩:∃ e,Sn A=e:=⟨_,rfl⟩
     rw [heV]
     obtain ⟨_,l1,l2⟩:=Vu.out Z4 (Below.refl _ _)
     clear m3 m4 mb3 mb4 mz3 mz4 la4 la5 QT heV HRF bQ Zp hb4
     go_upto_region 34 with (fail)
     clear hZ3 adG
     go_region_held3 (fun v=>Below Z4.heap.size Z4 v∧(Instr.loadAt 25 (.pointer (some ⟨gb,k*5,none⟩))).run Tryz.prog v= .ok ((bS A).agg (.slice q3 (bS A).list.length d3)) v∧(Instr.loadAt 25 (.pointer (some ⟨ZI.heap.size,0,none⟩))).run Tryz.prog v= .ok ((bS A).agg (.slice q4 (bS A).list.length d4)) v)
      (first
        |with_reducible exact Vu.out _ hb2.out
        |with_reducible exact Vu.out _ (Below.refl _ _).drew)
      ((go_at_call 11;refine (YK.out _ (Below.refl _ _).drew).mono ?_;rintro r w2 ⟨rfl,hb2'⟩;have hb2:Hid (Below Z4.heap.size Z4 w2):=(Below.refl _ _).drew.trans hb2';clear hb2'))
     obtain ⟨_,l14,_⟩:=Vu.out w2 hb2.out
     have HB2:Hid (Below wr.heap.size wr w2):=HBZ.out.trans (hb2.out.mono HBZ.out.size)
     obtain ⟨bv,hbk⟩:=HQ.out
     have hcnt:=rF (m:=300001) (l:=items.take k) (fun x hx=>(abA.out x (List.mem_of_mem_take hx)).2)
     have htk:(items.take k).length≤4:=Nat.le_trans (List.length_take_le _ _) hk
     have agh:(bN (items.take k)).length≤4*300001:=Nat.le_trans hcnt (Nat.mul_le_mul_right _ htk)
     have HTK:=ajd (Sm (takes LV) X7.heap.size F5.heap.size bv (.slice q3 (bS A).list.length d3) (bN (items.take k)) us (bS A) w2 (hbk.below HB2.out) (HIV.out.2.1.below HB2.out) (fun u hu b hb=>(HIV.out.2.2.2.1 u hu b hb).2) (by have:=HIV.out.2.2.2.2.1;omega))
     clear l1 l2 hbk hcnt htk agh YK hb2 HQ Vu NP
     go_wp2_with (fail)
     clear l14
     refine HTK.out.mono ?_
     rintro r w28 ⟨rfl,bv2,hbk2,agi⟩
     have ajb:Hid (Bk X7.heap.size F5.heap.size F5 w28):=(HBQ.out.trans (Bk.of_below HB2.out HBQ.out.size)).trans agi
     have ajc:Hid (∃ bv,lW QO w28 X7.heap.size F5.heap.size bv (bN (items.take (k+1)))):=⟨bv2,by rw [NI HIT.out];exact hbk2⟩
     clear HTK hbk2 agi
     go_wp2
     go_roundw
     case rel=>exact ⟨k+1,by go_num,by omega,ajb.out,ajc.out⟩
     case measure=>simp [intOf];omega
    ·obtain rfl:k=4:=by omega
     obtain ⟨hEZ,ZG,zv,hA,hI⟩:=HG.out wr HBQ.out
     obtain ⟨bv,hbk⟩:=HQ.out
     rw [List.take_of_length_le (by rw [ES.out];exact Nat.le_refl 4)] at hbk
     have BWZ:=ajd ZG
     have HOW:Hid (Calls Tryz.prog 14 #[.pointer (some ⟨X7.heap.size,0,none⟩)] wr fun r w'=>r= .returned (.bool true)∧(w.heap.size≤wr.heap.size→Below w.heap.size wr w')):=by
      have h7:=HZ7.out
      have hz:=HZS.out
      refine F4 (S:=w.heap.size) (N:=1000000000) hbk (fun u hu=>?_) (fun u hu b hb=>?_) HPW.out.apart (fun u hu p m c e=>?_) ⟨by omega,by omega⟩ ?_
      ·obtain ⟨it,hit,hu⟩:=gZ.1 hu
       obtain ⟨j,hj⟩:=List.getElem?_of_mem hit
       exact (hI j it hj).2.2.1.rows u hu
      ·obtain ⟨it,hit,hu⟩:=gZ.1 hu
       obtain ⟨j,hj⟩:=List.getElem?_of_mem hit
       have:=(hI j it hj).2.2.2 u hu b hb
       exact ⟨by omega,this.2.1,this.2.2⟩
      ·obtain ⟨it,hit,hu⟩:=gZ.1 hu
       obtain ⟨j,hj⟩:=List.getElem?_of_mem hit
       have h1:=Fv (hI j it hj).2.2.1 u hu p m c e
       have h2:=(abA.out it hit).1
       omega
      ·have:=rF (m:=300001) (l:=items) (fun x hx=>(abA.out x hx).2)
       rw [ES.out] at this
       omega
     clear hEZ ZG zv hA hI hbk HQ
     go_wp2_with (fail)
     refine HOW.out.mono ?_
     rintro r w27 ⟨rfl,agj⟩
     have ET:Hid (Below w.heap.size w w27):=BWZ.out.trans (agj BWZ.out.size)
     clear agj HOW
     go_wp2
     go_ret
     exact ⟨rfl,ET.out⟩
end Go.Proofs.YtmldhjoolebjoaaGreatDoor.Va
namespace Go.Proofs.YtmldhjoolebjoaaGreatDoor.Va
open Go Go.RowKit Go.ChangeShapes Go.WideShapes Go.Deep Nu
noncomputable def JZ:Array Field:=match Tryz.prog.underlying 27 with|some (.struct fs)=>fs|_=>#[]
theorem Zr:Tryz.prog.underlying 27=some (.struct JZ):=by kernel_rfl
theorem jf:JZ.size=3:=by kernel_rfl
theorem adL:Tryz.prog.cellsOf 27=7:=by kernel_rfl
theorem QV:JZ.toList.map (fun f=>(f.type,f.offset,Tryz.prog.cellsOf f.type))=[(9,0,1),(9,1,1),(25,2,5)]:=by kernel_rfl
theorem VF {fs:Array Field} {L:List (TypeId×Nat×Nat)} (h:fs.toList.map (fun f=>(f.type,f.offset,Tryz.prog.cellsOf f.type))=L) (j:Nat) (t o k:Nat) (hx:L[j]? =some (t,o,k)):∃ f:Field,fs[j]? =some f∧f.type=t∧f.offset=o∧Tryz.prog.cellsOf f.type=k:=by
 rw [←h,List.getElem?_map] at hx
 rw [Array.getElem?_toList] at hx
 cases hf:fs[j]? with
 |none=>rw [hf] at hx;cases hx
 |some f=>
  rw [hf] at hx
  simp only [Option.map_some,Option.some.injEq,Prod.mk.injEq] at hx
  exact ⟨f,rfl,hx.1,hx.2.1,hx.2.2⟩
section
variable {H:Type} {enc:TypeId×Value→H} {w:World} {base:Nat} {spare:Nat→Bool} {held:Bool}
theorem abB {cs:List Value} {n:Nat} {x:DataW H×List MemPlace} (h:DataW.trod enc Tryz.prog w base spare held n 25 cs=some x) (hl:cs.length=5):
 ∃ (t:VT) (lv:Value),cs=t.cells lv∧t.bD∧bR w.heap.size w n lv t.list:=by
 obtain ⟨k,m,s,lv,e,n',y,hn,hcs,hf,hlist⟩:=Eu h hl
 obtain ⟨ts,hts⟩:=open_list hlist
 exact ⟨.mk k m s e ts,lv,hcs,hf ts,by rw [hn];exact hts⟩
theorem QW {cs:List Value} {n:Nat} {x:DataW H×List MemPlace} (h:DataW.trod enc Tryz.prog w base spare held n 27 cs=some x) (hl:cs.length=7):
 ∃ (c t:ByteArray) (i:VT) (il:Value),cs= .string c:: .string t::i.cells il∧c.size≤maxLen∧t.size≤maxLen∧i.bD∧bR w.heap.size w n il i.list:=by
 obtain ⟨ys,n',hn',hy,hlen,hyl,hf⟩:=DataW.trod_struct Zr h
 have one:∀ (j t o k:Nat),([(9,0,1),(9,1,1),(25,2,5)]:List (TypeId×Nat×Nat))[j]? =some (t,o,k)→∃ y,DataW.trod enc Tryz.prog w base spare held n' t ((cs.drop o).take k)=some y:=by
  intro j t o k hx
  obtain ⟨f,hj,rfl,rfl,rfl⟩:=VF QV j t o k hx
  have hjl:j<3:=by rw [←jf];exact (Array.getElem?_eq_some_iff.1 hj).1
  exact ⟨_,(hf j f hj).trans (List.getElem?_eq_getElem (by rw [hyl,jf];omega))⟩
 match cs,hl with
 |[a0,a1,a2,a3,a4,a5,a6],_=>
  obtain ⟨y0,t0⟩:=one 0 9 0 1 rfl
  obtain ⟨y1,t1⟩:=one 1 9 1 1 rfl
  obtain ⟨y2,t2⟩:=one 2 25 2 5 rfl
  obtain ⟨s0,h0,_,w0⟩:=DataW.trod_string Tryz.underlying9 (show DataW.trod enc Tryz.prog w base spare held n' 9 [a0]=some y0 from t0)
  obtain ⟨s1,h1,_,w1⟩:=DataW.trod_string Tryz.underlying9 (show DataW.trod enc Tryz.prog w base spare held n' 9 [a1]=some y1 from t1)
  obtain ⟨t,lv,h2,XX,hl2⟩:=abB (show DataW.trod enc Tryz.prog w base spare held n' 25 [a2,a3,a4,a5,a6]=some y2 from t2) rfl
  simp only [List.cons.injEq,and_true] at h0 h1
  subst h0 h1
  exact ⟨s0,s1,t,lv,by rw [h2],w0,w1,XX,hl2.mono (by omega)⟩
theorem F6 {r:Reach} {b0:Nat} {v:Value} {d:DataW H} {p:List MemPlace} (hv:Value.okWide Tryz.prog w r b0 27 v) (h:DataW.Trod enc Tryz.prog w base spare held 27 v d p):
 ∃ (N:Nat) (c x:ByteArray) (i:VT) (il:Value),v= .agg #[.string c,.string x,.int .i64 i.kind,.int .u64 i.num,.string i.text,il,.int .i64 i.elem]∧c.size≤maxLen∧x.size≤maxLen∧i.bD∧bR w.heap.size w N il i.list:=by
 obtain ⟨cs,rfl,hsz⟩:=okWide_struct Zr hv
 obtain ⟨fuel,hf⟩:=h
 have hl:cs.toList.length=7:=by rw [Array.length_toList,hsz];exact adL
 obtain ⟨c,x,i,il,hcs,hc,hx,hi,hil⟩:=QW hf hl
 refine ⟨fuel,c,x,i,il,?_,hc,hx,hi,hil⟩
 have:cs= #[.string c,.string x,.int .i64 i.kind,.int .u64 i.num,.string i.text,il,.int .i64 i.elem]:=Array.toList_inj.1 (hcs.trans (by simp [VT.cells]))
 rw [this]
end
end Go.Proofs.YtmldhjoolebjoaaGreatDoor.Va
namespace Go.Proofs.YtmldhjoolebjoaaGreatDoor.Aw
open Go
noncomputable def spaces:List (Nat×List Value):=[(2,Lib.asciiSpaceTab.map fun z=>Value.int .u8 z)]
theorem mixed:Tryz.prog.follows .mixedOrders=true:=by kernel_rfl
theorem y7:CE.dV Tryz.prog:=CE.Es (by kernel_rfl)
noncomputable def Zt:CE.gG:={f:=4,args:=[],jI:=spaces,val:= .bool true}
theorem QX:Zt.says Tryz.prog 7 1000000 []=true:=by kernel_rfl
theorem VU:CE.pJ Tryz.prog 7 Zt:=CE.RJ mixed y7 (CE.vL _ _) QX
end Go.Proofs.YtmldhjoolebjoaaGreatDoor.Aw
