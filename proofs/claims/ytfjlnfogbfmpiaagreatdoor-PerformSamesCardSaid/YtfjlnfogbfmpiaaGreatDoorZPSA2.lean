/-
  The texts CeA of this claim, one behind the other.
-/
import GoSem.Step
import Derived.Control
import Derived.Lib.ReflectliteSwap
import Derived.Laws.Externs
import Derived.WalkKit
import Derived.Below
noncomputable section
namespace Go.CE
open Go
inductive BT (α:Type) where
 |e:BT α
 |n (l:BT α) (v:Option α) (r:BT α):BT α
def wayF:Nat→Nat→List Bool
 |0,_=>[]
 |f+1,k=>bif Nat.beq k 0 then [] else Nat.beq (Nat.mod k 2) 1::wayF f (Nat.div (Nat.sub k 1) 2)
def way (k:Nat):List Bool:=wayF k k
def BT.getP {α:Type} (p:List Bool):BT α→Option α:=
 List.rec (motive:=fun _=>BT α→Option α) (fun t=>BT.rec (motive:=fun _=>Option α) none (fun _ v _ _ _=>v) t)
  (fun b _ ih t=>BT.rec (motive:=fun _=>Option α) none (fun l _ r _ _=>ih (Bool.rec (motive:=fun _=>BT α) r l b)) t) p
def BT.setP {α:Type} (v:Option α) (p:List Bool):BT α→BT α:=
 List.rec (motive:=fun _=>BT α→BT α) (fun t=>BT.rec (motive:=fun _=>BT α) (.n .e v .e) (fun l _ r _ _=> .n l v r) t)
  (fun b _ ih t=>BT.rec (motive:=fun _=>BT α)
    (Bool.rec (motive:=fun _=>BT α) (.n .e none (ih .e)) (.n (ih .e) none .e) b)
    (fun l u r _ _=>Bool.rec (motive:=fun _=>BT α) (.n l u (ih r)) (.n (ih l) u r) b) t) p
theorem BT.getP_e {α:Type} (p:List Bool):BT.getP p (BT.e:BT α)=none:=by cases p<;>rfl
theorem BT.getP_setP {α:Type} (v:Option α):∀ (p q:List Bool) (t:BT α),BT.getP q (BT.setP v p t)=if q=p then v else BT.getP q t:=by
 intro p
 induction p with
 |nil=>intro q t;cases t<;>cases q<;>simp [BT.setP,BT.getP]<;>(rename_i b r;cases b<;>first|rfl|exact BT.getP_e r)
 |cons b p ih=>
  intro q t
  cases t with
  |e=>
   cases q with
   |nil=>cases b<;>rfl
   |cons c q=>
    have h:=ih q BT.e
    cases b<;>cases c
    ·show BT.getP q (BT.setP v p BT.e)=_;rw [h];simp [BT.getP_e]
    ·show BT.getP q BT.e=_;simp [BT.getP_e]
    ·show BT.getP q BT.e=_;simp [BT.getP_e]
    ·show BT.getP q (BT.setP v p BT.e)=_;rw [h];simp [BT.getP_e]
  |n l u r=>
   cases q with
   |nil=>cases b<;>rfl
   |cons c q=>
    cases b<;>cases c
    ·show BT.getP q (BT.setP v p r)=_;rw [ih q r];simp;rfl
    ·show BT.getP q l=_;simp;rfl
    ·show BT.getP q r=_;simp;rfl
    ·show BT.getP q (BT.setP v p l)=_;rw [ih q l];simp;rfl
theorem wayF_inj:∀ (f g k l:Nat),k≤f→l≤g→wayF f k=wayF g l→k=l:=by
 intro f
 induction f with
 |zero=>
  intro g k l hk hl h
  obtain rfl:k=0:=by omega
  cases g with
  |zero=>omega
  |succ g=>
   simp only [wayF] at h
   cases hb:Nat.beq l 0 with
   |true=>exact (Nat.eq_of_beq_eq_true hb).symm
   |false=>rw [hb] at h;simp at h
 |succ f ih=>
  intro g k l hk hl h
  cases g with
  |zero=>
   obtain rfl:l=0:=by omega
   simp only [wayF] at h
   cases hb:Nat.beq k 0 with
   |true=>exact Nat.eq_of_beq_eq_true hb
   |false=>rw [hb] at h;simp at h
  |succ g=>
   simp only [wayF] at h
   cases hb:Nat.beq k 0<;>cases hc:Nat.beq l 0<;>simp only [hb,hc,cond_true,cond_false] at h
   ·have hk0:k≠0:=fun e=>by subst e;simp at hb
    have hl0:l≠0:=fun e=>by subst e;simp at hc
    obtain ⟨h1,h2⟩:=List.cons.inj h
    have h3:=ih g _ _ (by show (k-1)/2≤f;omega) (by show (l-1)/2≤g;omega) h2
    have h3':(k-1)/2=(l-1)/2:=h3
    have hm:(k%2=1)↔(l%2=1):=by
     have e1:Nat.beq (Nat.mod k 2) 1=true↔k%2=1:=⟨fun h=>Nat.eq_of_beq_eq_true h,fun h=>by show Nat.beq (k%2) 1=true;rw [h];rfl⟩
     have e2:Nat.beq (Nat.mod l 2) 1=true↔l%2=1:=⟨fun h=>Nat.eq_of_beq_eq_true h,fun h=>by show Nat.beq (l%2) 1=true;rw [h];rfl⟩
     rw [←e1,←e2,h1]
    omega
   ·simp at h
   ·simp at h
   ·rw [Nat.eq_of_beq_eq_true hb,Nat.eq_of_beq_eq_true hc]
theorem way_inj {k l:Nat} (h:way k=way l):k=l:=wayF_inj k l k l (Nat.le_refl _) (Nat.le_refl _) h
theorem sixteen {d:Nat} (h:d<16):d=0∨d=1∨d=2∨d=3∨d=4∨d=5∨d=6∨d=7∨d=8∨d=9∨d=10∨d=11∨d=12∨d=13∨d=14∨d=15:=by omega
structure TV1 where
 a0:Option Value
 a1:Option Value
 a2:Option Value
 a3:Option Value
 a4:Option Value
 a5:Option Value
 a6:Option Value
 a7:Option Value
 a8:Option Value
 a9:Option Value
 a10:Option Value
 a11:Option Value
 a12:Option Value
 a13:Option Value
 a14:Option Value
 a15:Option Value
structure TV1Sel where
 f:TV1→Option Value
structure TV1Put where
 f:Option Value→TV1→TV1
def TV1.selC (d:Nat):TV1Sel:=
 (Nat.rec (motive:=fun _=>TV1Sel) ⟨fun n=>n.a0⟩ (fun d0 _=>(Nat.rec (motive:=fun _=>TV1Sel) ⟨fun n=>n.a1⟩ (fun d1 _=>(Nat.rec (motive:=fun _=>TV1Sel) ⟨fun n=>n.a2⟩ (fun d2 _=>(Nat.rec (motive:=fun _=>TV1Sel) ⟨fun n=>n.a3⟩ (fun d3 _=>(Nat.rec (motive:=fun _=>TV1Sel) ⟨fun n=>n.a4⟩ (fun d4 _=>(Nat.rec (motive:=fun _=>TV1Sel) ⟨fun n=>n.a5⟩ (fun d5 _=>(Nat.rec (motive:=fun _=>TV1Sel) ⟨fun n=>n.a6⟩ (fun d6 _=>(Nat.rec (motive:=fun _=>TV1Sel) ⟨fun n=>n.a7⟩ (fun d7 _=>(Nat.rec (motive:=fun _=>TV1Sel) ⟨fun n=>n.a8⟩ (fun d8 _=>(Nat.rec (motive:=fun _=>TV1Sel) ⟨fun n=>n.a9⟩ (fun d9 _=>(Nat.rec (motive:=fun _=>TV1Sel) ⟨fun n=>n.a10⟩ (fun d10 _=>(Nat.rec (motive:=fun _=>TV1Sel) ⟨fun n=>n.a11⟩ (fun d11 _=>(Nat.rec (motive:=fun _=>TV1Sel) ⟨fun n=>n.a12⟩ (fun d12 _=>(Nat.rec (motive:=fun _=>TV1Sel) ⟨fun n=>n.a13⟩ (fun d13 _=>(Nat.rec (motive:=fun _=>TV1Sel) ⟨fun n=>n.a14⟩ (fun _ _=>⟨fun n=>n.a15⟩) d13)) d12)) d11)) d10)) d9)) d8)) d7)) d6)) d5)) d4)) d3)) d2)) d1)) d0)) d)
def TV1.putC (d:Nat):TV1Put:=
 (Nat.rec (motive:=fun _=>TV1Put) ⟨fun b n=>TV1.rec (motive:=fun _=>Option Value→TV1) (fun _ a1 a2 a3 a4 a5 a6 a7 a8 a9 a10 a11 a12 a13 a14 a15 b=>⟨b,a1,a2,a3,a4,a5,a6,a7,a8,a9,a10,a11,a12,a13,a14,a15⟩) n b⟩ (fun d0 _=>(Nat.rec (motive:=fun _=>TV1Put) ⟨fun b n=>TV1.rec (motive:=fun _=>Option Value→TV1) (fun a0 _ a2 a3 a4 a5 a6 a7 a8 a9 a10 a11 a12 a13 a14 a15 b=>⟨a0,b,a2,a3,a4,a5,a6,a7,a8,a9,a10,a11,a12,a13,a14,a15⟩) n b⟩ (fun d1 _=>(Nat.rec (motive:=fun _=>TV1Put) ⟨fun b n=>TV1.rec (motive:=fun _=>Option Value→TV1) (fun a0 a1 _ a3 a4 a5 a6 a7 a8 a9 a10 a11 a12 a13 a14 a15 b=>⟨a0,a1,b,a3,a4,a5,a6,a7,a8,a9,a10,a11,a12,a13,a14,a15⟩) n b⟩ (fun d2 _=>(Nat.rec (motive:=fun _=>TV1Put) ⟨fun b n=>TV1.rec (motive:=fun _=>Option Value→TV1) (fun a0 a1 a2 _ a4 a5 a6 a7 a8 a9 a10 a11 a12 a13 a14 a15 b=>⟨a0,a1,a2,b,a4,a5,a6,a7,a8,a9,a10,a11,a12,a13,a14,a15⟩) n b⟩ (fun d3 _=>(Nat.rec (motive:=fun _=>TV1Put) ⟨fun b n=>TV1.rec (motive:=fun _=>Option Value→TV1) (fun a0 a1 a2 a3 _ a5 a6 a7 a8 a9 a10 a11 a12 a13 a14 a15 b=>⟨a0,a1,a2,a3,b,a5,a6,a7,a8,a9,a10,a11,a12,a13,a14,a15⟩) n b⟩ (fun d4 _=>(Nat.rec (motive:=fun _=>TV1Put) ⟨fun b n=>TV1.rec (motive:=fun _=>Option Value→TV1) (fun a0 a1 a2 a3 a4 _ a6 a7 a8 a9 a10 a11 a12 a13 a14 a15 b=>⟨a0,a1,a2,a3,a4,b,a6,a7,a8,a9,a10,a11,a12,a13,a14,a15⟩) n b⟩ (fun d5 _=>(Nat.rec (motive:=fun _=>TV1Put) ⟨fun b n=>TV1.rec (motive:=fun _=>Option Value→TV1) (fun a0 a1 a2 a3 a4 a5 _ a7 a8 a9 a10 a11 a12 a13 a14 a15 b=>⟨a0,a1,a2,a3,a4,a5,b,a7,a8,a9,a10,a11,a12,a13,a14,a15⟩) n b⟩ (fun d6 _=>(Nat.rec (motive:=fun _=>TV1Put) ⟨fun b n=>TV1.rec (motive:=fun _=>Option Value→TV1) (fun a0 a1 a2 a3 a4 a5 a6 _ a8 a9 a10 a11 a12 a13 a14 a15 b=>⟨a0,a1,a2,a3,a4,a5,a6,b,a8,a9,a10,a11,a12,a13,a14,a15⟩) n b⟩ (fun d7 _=>(Nat.rec (motive:=fun _=>TV1Put) ⟨fun b n=>TV1.rec (motive:=fun _=>Option Value→TV1) (fun a0 a1 a2 a3 a4 a5 a6 a7 _ a9 a10 a11 a12 a13 a14 a15 b=>⟨a0,a1,a2,a3,a4,a5,a6,a7,b,a9,a10,a11,a12,a13,a14,a15⟩) n b⟩ (fun d8 _=>(Nat.rec (motive:=fun _=>TV1Put) ⟨fun b n=>TV1.rec (motive:=fun _=>Option Value→TV1) (fun a0 a1 a2 a3 a4 a5 a6 a7 a8 _ a10 a11 a12 a13 a14 a15 b=>⟨a0,a1,a2,a3,a4,a5,a6,a7,a8,b,a10,a11,a12,a13,a14,a15⟩) n b⟩ (fun d9 _=>(Nat.rec (motive:=fun _=>TV1Put) ⟨fun b n=>TV1.rec (motive:=fun _=>Option Value→TV1) (fun a0 a1 a2 a3 a4 a5 a6 a7 a8 a9 _ a11 a12 a13 a14 a15 b=>⟨a0,a1,a2,a3,a4,a5,a6,a7,a8,a9,b,a11,a12,a13,a14,a15⟩) n b⟩ (fun d10 _=>(Nat.rec (motive:=fun _=>TV1Put) ⟨fun b n=>TV1.rec (motive:=fun _=>Option Value→TV1) (fun a0 a1 a2 a3 a4 a5 a6 a7 a8 a9 a10 _ a12 a13 a14 a15 b=>⟨a0,a1,a2,a3,a4,a5,a6,a7,a8,a9,a10,b,a12,a13,a14,a15⟩) n b⟩ (fun d11 _=>(Nat.rec (motive:=fun _=>TV1Put) ⟨fun b n=>TV1.rec (motive:=fun _=>Option Value→TV1) (fun a0 a1 a2 a3 a4 a5 a6 a7 a8 a9 a10 a11 _ a13 a14 a15 b=>⟨a0,a1,a2,a3,a4,a5,a6,a7,a8,a9,a10,a11,b,a13,a14,a15⟩) n b⟩ (fun d12 _=>(Nat.rec (motive:=fun _=>TV1Put) ⟨fun b n=>TV1.rec (motive:=fun _=>Option Value→TV1) (fun a0 a1 a2 a3 a4 a5 a6 a7 a8 a9 a10 a11 a12 _ a14 a15 b=>⟨a0,a1,a2,a3,a4,a5,a6,a7,a8,a9,a10,a11,a12,b,a14,a15⟩) n b⟩ (fun d13 _=>(Nat.rec (motive:=fun _=>TV1Put) ⟨fun b n=>TV1.rec (motive:=fun _=>Option Value→TV1) (fun a0 a1 a2 a3 a4 a5 a6 a7 a8 a9 a10 a11 a12 a13 _ a15 b=>⟨a0,a1,a2,a3,a4,a5,a6,a7,a8,a9,a10,a11,a12,a13,b,a15⟩) n b⟩ (fun _ _=>⟨fun b n=>TV1.rec (motive:=fun _=>Option Value→TV1) (fun a0 a1 a2 a3 a4 a5 a6 a7 a8 a9 a10 a11 a12 a13 a14 _ b=>⟨a0,a1,a2,a3,a4,a5,a6,a7,a8,a9,a10,a11,a12,a13,a14,b⟩) n b⟩) d13)) d12)) d11)) d10)) d9)) d8)) d7)) d6)) d5)) d4)) d3)) d2)) d1)) d0)) d)
def TV1.sel (d:Nat) (n:TV1):Option Value:=(selC d).f n
def TV1.put (d:Nat) (b:Option Value) (n:TV1):TV1:=(putC d).f b n
def TV1.rep (b:Option Value):TV1:=⟨b,b,b,b,b,b,b,b,b,b,b,b,b,b,b,b⟩
theorem TV1.sel_put {d d':Nat} (h:d<16) (h':d'<16) (b:Option Value) (n:TV1):sel d (put d' b n)=if d=d' then b else sel d n:=by
 have k:=sixteen h
 have k':=sixteen h'
 clear h h'
 obtain ⟨a0,a1,a2,a3,a4,a5,a6,a7,a8,a9,a10,a11,a12,a13,a14,a15⟩:=n
 rcases k with rfl|rfl|rfl|rfl|rfl|rfl|rfl|rfl|rfl|rfl|rfl|rfl|rfl|rfl|rfl|rfl<;>rcases k' with rfl|rfl|rfl|rfl|rfl|rfl|rfl|rfl|rfl|rfl|rfl|rfl|rfl|rfl|rfl|rfl<;>rfl
theorem TV1.sel_rep {d:Nat} (h:d<16) (b:Option Value):sel d (rep b)=b:=by
 have k:=sixteen h
 clear h
 rcases k with rfl|rfl|rfl|rfl|rfl|rfl|rfl|rfl|rfl|rfl|rfl|rfl|rfl|rfl|rfl|rfl<;>rfl
structure TV2 where
 a0:TV1
 a1:TV1
 a2:TV1
 a3:TV1
 a4:TV1
 a5:TV1
 a6:TV1
 a7:TV1
 a8:TV1
 a9:TV1
 a10:TV1
 a11:TV1
 a12:TV1
 a13:TV1
 a14:TV1
 a15:TV1
structure TV2Sel where
 f:TV2→TV1
structure TV2Put where
 f:TV1→TV2→TV2
def TV2.selC (d:Nat):TV2Sel:=
 (Nat.rec (motive:=fun _=>TV2Sel) ⟨fun n=>n.a0⟩ (fun d0 _=>(Nat.rec (motive:=fun _=>TV2Sel) ⟨fun n=>n.a1⟩ (fun d1 _=>(Nat.rec (motive:=fun _=>TV2Sel) ⟨fun n=>n.a2⟩ (fun d2 _=>(Nat.rec (motive:=fun _=>TV2Sel) ⟨fun n=>n.a3⟩ (fun d3 _=>(Nat.rec (motive:=fun _=>TV2Sel) ⟨fun n=>n.a4⟩ (fun d4 _=>(Nat.rec (motive:=fun _=>TV2Sel) ⟨fun n=>n.a5⟩ (fun d5 _=>(Nat.rec (motive:=fun _=>TV2Sel) ⟨fun n=>n.a6⟩ (fun d6 _=>(Nat.rec (motive:=fun _=>TV2Sel) ⟨fun n=>n.a7⟩ (fun d7 _=>(Nat.rec (motive:=fun _=>TV2Sel) ⟨fun n=>n.a8⟩ (fun d8 _=>(Nat.rec (motive:=fun _=>TV2Sel) ⟨fun n=>n.a9⟩ (fun d9 _=>(Nat.rec (motive:=fun _=>TV2Sel) ⟨fun n=>n.a10⟩ (fun d10 _=>(Nat.rec (motive:=fun _=>TV2Sel) ⟨fun n=>n.a11⟩ (fun d11 _=>(Nat.rec (motive:=fun _=>TV2Sel) ⟨fun n=>n.a12⟩ (fun d12 _=>(Nat.rec (motive:=fun _=>TV2Sel) ⟨fun n=>n.a13⟩ (fun d13 _=>(Nat.rec (motive:=fun _=>TV2Sel) ⟨fun n=>n.a14⟩ (fun _ _=>⟨fun n=>n.a15⟩) d13)) d12)) d11)) d10)) d9)) d8)) d7)) d6)) d5)) d4)) d3)) d2)) d1)) d0)) d)
def TV2.putC (d:Nat):TV2Put:=
 (Nat.rec (motive:=fun _=>TV2Put) ⟨fun b n=>TV2.rec (motive:=fun _=>TV1→TV2) (fun _ a1 a2 a3 a4 a5 a6 a7 a8 a9 a10 a11 a12 a13 a14 a15 b=>⟨b,a1,a2,a3,a4,a5,a6,a7,a8,a9,a10,a11,a12,a13,a14,a15⟩) n b⟩ (fun d0 _=>(Nat.rec (motive:=fun _=>TV2Put) ⟨fun b n=>TV2.rec (motive:=fun _=>TV1→TV2) (fun a0 _ a2 a3 a4 a5 a6 a7 a8 a9 a10 a11 a12 a13 a14 a15 b=>⟨a0,b,a2,a3,a4,a5,a6,a7,a8,a9,a10,a11,a12,a13,a14,a15⟩) n b⟩ (fun d1 _=>(Nat.rec (motive:=fun _=>TV2Put) ⟨fun b n=>TV2.rec (motive:=fun _=>TV1→TV2) (fun a0 a1 _ a3 a4 a5 a6 a7 a8 a9 a10 a11 a12 a13 a14 a15 b=>⟨a0,a1,b,a3,a4,a5,a6,a7,a8,a9,a10,a11,a12,a13,a14,a15⟩) n b⟩ (fun d2 _=>(Nat.rec (motive:=fun _=>TV2Put) ⟨fun b n=>TV2.rec (motive:=fun _=>TV1→TV2) (fun a0 a1 a2 _ a4 a5 a6 a7 a8 a9 a10 a11 a12 a13 a14 a15 b=>⟨a0,a1,a2,b,a4,a5,a6,a7,a8,a9,a10,a11,a12,a13,a14,a15⟩) n b⟩ (fun d3 _=>(Nat.rec (motive:=fun _=>TV2Put) ⟨fun b n=>TV2.rec (motive:=fun _=>TV1→TV2) (fun a0 a1 a2 a3 _ a5 a6 a7 a8 a9 a10 a11 a12 a13 a14 a15 b=>⟨a0,a1,a2,a3,b,a5,a6,a7,a8,a9,a10,a11,a12,a13,a14,a15⟩) n b⟩ (fun d4 _=>(Nat.rec (motive:=fun _=>TV2Put) ⟨fun b n=>TV2.rec (motive:=fun _=>TV1→TV2) (fun a0 a1 a2 a3 a4 _ a6 a7 a8 a9 a10 a11 a12 a13 a14 a15 b=>⟨a0,a1,a2,a3,a4,b,a6,a7,a8,a9,a10,a11,a12,a13,a14,a15⟩) n b⟩ (fun d5 _=>(Nat.rec (motive:=fun _=>TV2Put) ⟨fun b n=>TV2.rec (motive:=fun _=>TV1→TV2) (fun a0 a1 a2 a3 a4 a5 _ a7 a8 a9 a10 a11 a12 a13 a14 a15 b=>⟨a0,a1,a2,a3,a4,a5,b,a7,a8,a9,a10,a11,a12,a13,a14,a15⟩) n b⟩ (fun d6 _=>(Nat.rec (motive:=fun _=>TV2Put) ⟨fun b n=>TV2.rec (motive:=fun _=>TV1→TV2) (fun a0 a1 a2 a3 a4 a5 a6 _ a8 a9 a10 a11 a12 a13 a14 a15 b=>⟨a0,a1,a2,a3,a4,a5,a6,b,a8,a9,a10,a11,a12,a13,a14,a15⟩) n b⟩ (fun d7 _=>(Nat.rec (motive:=fun _=>TV2Put) ⟨fun b n=>TV2.rec (motive:=fun _=>TV1→TV2) (fun a0 a1 a2 a3 a4 a5 a6 a7 _ a9 a10 a11 a12 a13 a14 a15 b=>⟨a0,a1,a2,a3,a4,a5,a6,a7,b,a9,a10,a11,a12,a13,a14,a15⟩) n b⟩ (fun d8 _=>(Nat.rec (motive:=fun _=>TV2Put) ⟨fun b n=>TV2.rec (motive:=fun _=>TV1→TV2) (fun a0 a1 a2 a3 a4 a5 a6 a7 a8 _ a10 a11 a12 a13 a14 a15 b=>⟨a0,a1,a2,a3,a4,a5,a6,a7,a8,b,a10,a11,a12,a13,a14,a15⟩) n b⟩ (fun d9 _=>(Nat.rec (motive:=fun _=>TV2Put) ⟨fun b n=>TV2.rec (motive:=fun _=>TV1→TV2) (fun a0 a1 a2 a3 a4 a5 a6 a7 a8 a9 _ a11 a12 a13 a14 a15 b=>⟨a0,a1,a2,a3,a4,a5,a6,a7,a8,a9,b,a11,a12,a13,a14,a15⟩) n b⟩ (fun d10 _=>(Nat.rec (motive:=fun _=>TV2Put) ⟨fun b n=>TV2.rec (motive:=fun _=>TV1→TV2) (fun a0 a1 a2 a3 a4 a5 a6 a7 a8 a9 a10 _ a12 a13 a14 a15 b=>⟨a0,a1,a2,a3,a4,a5,a6,a7,a8,a9,a10,b,a12,a13,a14,a15⟩) n b⟩ (fun d11 _=>(Nat.rec (motive:=fun _=>TV2Put) ⟨fun b n=>TV2.rec (motive:=fun _=>TV1→TV2) (fun a0 a1 a2 a3 a4 a5 a6 a7 a8 a9 a10 a11 _ a13 a14 a15 b=>⟨a0,a1,a2,a3,a4,a5,a6,a7,a8,a9,a10,a11,b,a13,a14,a15⟩) n b⟩ (fun d12 _=>(Nat.rec (motive:=fun _=>TV2Put) ⟨fun b n=>TV2.rec (motive:=fun _=>TV1→TV2) (fun a0 a1 a2 a3 a4 a5 a6 a7 a8 a9 a10 a11 a12 _ a14 a15 b=>⟨a0,a1,a2,a3,a4,a5,a6,a7,a8,a9,a10,a11,a12,b,a14,a15⟩) n b⟩ (fun d13 _=>(Nat.rec (motive:=fun _=>TV2Put) ⟨fun b n=>TV2.rec (motive:=fun _=>TV1→TV2) (fun a0 a1 a2 a3 a4 a5 a6 a7 a8 a9 a10 a11 a12 a13 _ a15 b=>⟨a0,a1,a2,a3,a4,a5,a6,a7,a8,a9,a10,a11,a12,a13,b,a15⟩) n b⟩ (fun _ _=>⟨fun b n=>TV2.rec (motive:=fun _=>TV1→TV2) (fun a0 a1 a2 a3 a4 a5 a6 a7 a8 a9 a10 a11 a12 a13 a14 _ b=>⟨a0,a1,a2,a3,a4,a5,a6,a7,a8,a9,a10,a11,a12,a13,a14,b⟩) n b⟩) d13)) d12)) d11)) d10)) d9)) d8)) d7)) d6)) d5)) d4)) d3)) d2)) d1)) d0)) d)
def TV2.sel (d:Nat) (n:TV2):TV1:=(selC d).f n
def TV2.put (d:Nat) (b:TV1) (n:TV2):TV2:=(putC d).f b n
def TV2.rep (b:TV1):TV2:=⟨b,b,b,b,b,b,b,b,b,b,b,b,b,b,b,b⟩
theorem TV2.sel_put {d d':Nat} (h:d<16) (h':d'<16) (b:TV1) (n:TV2):sel d (put d' b n)=if d=d' then b else sel d n:=by
 have k:=sixteen h
 have k':=sixteen h'
 clear h h'
 obtain ⟨a0,a1,a2,a3,a4,a5,a6,a7,a8,a9,a10,a11,a12,a13,a14,a15⟩:=n
 rcases k with rfl|rfl|rfl|rfl|rfl|rfl|rfl|rfl|rfl|rfl|rfl|rfl|rfl|rfl|rfl|rfl<;>rcases k' with rfl|rfl|rfl|rfl|rfl|rfl|rfl|rfl|rfl|rfl|rfl|rfl|rfl|rfl|rfl|rfl<;>rfl
theorem TV2.sel_rep {d:Nat} (h:d<16) (b:TV1):sel d (rep b)=b:=by
 have k:=sixteen h
 clear h
 rcases k with rfl|rfl|rfl|rfl|rfl|rfl|rfl|rfl|rfl|rfl|rfl|rfl|rfl|rfl|rfl|rfl<;>rfl
structure TV3 where
 a0:TV2
 a1:TV2
 a2:TV2
 a3:TV2
 a4:TV2
 a5:TV2
 a6:TV2
 a7:TV2
 a8:TV2
 a9:TV2
 a10:TV2
 a11:TV2
 a12:TV2
 a13:TV2
 a14:TV2
 a15:TV2
structure TV3Sel where
 f:TV3→TV2
structure TV3Put where
 f:TV2→TV3→TV3
def TV3.selC (d:Nat):TV3Sel:=
 (Nat.rec (motive:=fun _=>TV3Sel) ⟨fun n=>n.a0⟩ (fun d0 _=>(Nat.rec (motive:=fun _=>TV3Sel) ⟨fun n=>n.a1⟩ (fun d1 _=>(Nat.rec (motive:=fun _=>TV3Sel) ⟨fun n=>n.a2⟩ (fun d2 _=>(Nat.rec (motive:=fun _=>TV3Sel) ⟨fun n=>n.a3⟩ (fun d3 _=>(Nat.rec (motive:=fun _=>TV3Sel) ⟨fun n=>n.a4⟩ (fun d4 _=>(Nat.rec (motive:=fun _=>TV3Sel) ⟨fun n=>n.a5⟩ (fun d5 _=>(Nat.rec (motive:=fun _=>TV3Sel) ⟨fun n=>n.a6⟩ (fun d6 _=>(Nat.rec (motive:=fun _=>TV3Sel) ⟨fun n=>n.a7⟩ (fun d7 _=>(Nat.rec (motive:=fun _=>TV3Sel) ⟨fun n=>n.a8⟩ (fun d8 _=>(Nat.rec (motive:=fun _=>TV3Sel) ⟨fun n=>n.a9⟩ (fun d9 _=>(Nat.rec (motive:=fun _=>TV3Sel) ⟨fun n=>n.a10⟩ (fun d10 _=>(Nat.rec (motive:=fun _=>TV3Sel) ⟨fun n=>n.a11⟩ (fun d11 _=>(Nat.rec (motive:=fun _=>TV3Sel) ⟨fun n=>n.a12⟩ (fun d12 _=>(Nat.rec (motive:=fun _=>TV3Sel) ⟨fun n=>n.a13⟩ (fun d13 _=>(Nat.rec (motive:=fun _=>TV3Sel) ⟨fun n=>n.a14⟩ (fun _ _=>⟨fun n=>n.a15⟩) d13)) d12)) d11)) d10)) d9)) d8)) d7)) d6)) d5)) d4)) d3)) d2)) d1)) d0)) d)
def TV3.putC (d:Nat):TV3Put:=
 (Nat.rec (motive:=fun _=>TV3Put) ⟨fun b n=>TV3.rec (motive:=fun _=>TV2→TV3) (fun _ a1 a2 a3 a4 a5 a6 a7 a8 a9 a10 a11 a12 a13 a14 a15 b=>⟨b,a1,a2,a3,a4,a5,a6,a7,a8,a9,a10,a11,a12,a13,a14,a15⟩) n b⟩ (fun d0 _=>(Nat.rec (motive:=fun _=>TV3Put) ⟨fun b n=>TV3.rec (motive:=fun _=>TV2→TV3) (fun a0 _ a2 a3 a4 a5 a6 a7 a8 a9 a10 a11 a12 a13 a14 a15 b=>⟨a0,b,a2,a3,a4,a5,a6,a7,a8,a9,a10,a11,a12,a13,a14,a15⟩) n b⟩ (fun d1 _=>(Nat.rec (motive:=fun _=>TV3Put) ⟨fun b n=>TV3.rec (motive:=fun _=>TV2→TV3) (fun a0 a1 _ a3 a4 a5 a6 a7 a8 a9 a10 a11 a12 a13 a14 a15 b=>⟨a0,a1,b,a3,a4,a5,a6,a7,a8,a9,a10,a11,a12,a13,a14,a15⟩) n b⟩ (fun d2 _=>(Nat.rec (motive:=fun _=>TV3Put) ⟨fun b n=>TV3.rec (motive:=fun _=>TV2→TV3) (fun a0 a1 a2 _ a4 a5 a6 a7 a8 a9 a10 a11 a12 a13 a14 a15 b=>⟨a0,a1,a2,b,a4,a5,a6,a7,a8,a9,a10,a11,a12,a13,a14,a15⟩) n b⟩ (fun d3 _=>(Nat.rec (motive:=fun _=>TV3Put) ⟨fun b n=>TV3.rec (motive:=fun _=>TV2→TV3) (fun a0 a1 a2 a3 _ a5 a6 a7 a8 a9 a10 a11 a12 a13 a14 a15 b=>⟨a0,a1,a2,a3,b,a5,a6,a7,a8,a9,a10,a11,a12,a13,a14,a15⟩) n b⟩ (fun d4 _=>(Nat.rec (motive:=fun _=>TV3Put) ⟨fun b n=>TV3.rec (motive:=fun _=>TV2→TV3) (fun a0 a1 a2 a3 a4 _ a6 a7 a8 a9 a10 a11 a12 a13 a14 a15 b=>⟨a0,a1,a2,a3,a4,b,a6,a7,a8,a9,a10,a11,a12,a13,a14,a15⟩) n b⟩ (fun d5 _=>(Nat.rec (motive:=fun _=>TV3Put) ⟨fun b n=>TV3.rec (motive:=fun _=>TV2→TV3) (fun a0 a1 a2 a3 a4 a5 _ a7 a8 a9 a10 a11 a12 a13 a14 a15 b=>⟨a0,a1,a2,a3,a4,a5,b,a7,a8,a9,a10,a11,a12,a13,a14,a15⟩) n b⟩ (fun d6 _=>(Nat.rec (motive:=fun _=>TV3Put) ⟨fun b n=>TV3.rec (motive:=fun _=>TV2→TV3) (fun a0 a1 a2 a3 a4 a5 a6 _ a8 a9 a10 a11 a12 a13 a14 a15 b=>⟨a0,a1,a2,a3,a4,a5,a6,b,a8,a9,a10,a11,a12,a13,a14,a15⟩) n b⟩ (fun d7 _=>(Nat.rec (motive:=fun _=>TV3Put) ⟨fun b n=>TV3.rec (motive:=fun _=>TV2→TV3) (fun a0 a1 a2 a3 a4 a5 a6 a7 _ a9 a10 a11 a12 a13 a14 a15 b=>⟨a0,a1,a2,a3,a4,a5,a6,a7,b,a9,a10,a11,a12,a13,a14,a15⟩) n b⟩ (fun d8 _=>(Nat.rec (motive:=fun _=>TV3Put) ⟨fun b n=>TV3.rec (motive:=fun _=>TV2→TV3) (fun a0 a1 a2 a3 a4 a5 a6 a7 a8 _ a10 a11 a12 a13 a14 a15 b=>⟨a0,a1,a2,a3,a4,a5,a6,a7,a8,b,a10,a11,a12,a13,a14,a15⟩) n b⟩ (fun d9 _=>(Nat.rec (motive:=fun _=>TV3Put) ⟨fun b n=>TV3.rec (motive:=fun _=>TV2→TV3) (fun a0 a1 a2 a3 a4 a5 a6 a7 a8 a9 _ a11 a12 a13 a14 a15 b=>⟨a0,a1,a2,a3,a4,a5,a6,a7,a8,a9,b,a11,a12,a13,a14,a15⟩) n b⟩ (fun d10 _=>(Nat.rec (motive:=fun _=>TV3Put) ⟨fun b n=>TV3.rec (motive:=fun _=>TV2→TV3) (fun a0 a1 a2 a3 a4 a5 a6 a7 a8 a9 a10 _ a12 a13 a14 a15 b=>⟨a0,a1,a2,a3,a4,a5,a6,a7,a8,a9,a10,b,a12,a13,a14,a15⟩) n b⟩ (fun d11 _=>(Nat.rec (motive:=fun _=>TV3Put) ⟨fun b n=>TV3.rec (motive:=fun _=>TV2→TV3) (fun a0 a1 a2 a3 a4 a5 a6 a7 a8 a9 a10 a11 _ a13 a14 a15 b=>⟨a0,a1,a2,a3,a4,a5,a6,a7,a8,a9,a10,a11,b,a13,a14,a15⟩) n b⟩ (fun d12 _=>(Nat.rec (motive:=fun _=>TV3Put) ⟨fun b n=>TV3.rec (motive:=fun _=>TV2→TV3) (fun a0 a1 a2 a3 a4 a5 a6 a7 a8 a9 a10 a11 a12 _ a14 a15 b=>⟨a0,a1,a2,a3,a4,a5,a6,a7,a8,a9,a10,a11,a12,b,a14,a15⟩) n b⟩ (fun d13 _=>(Nat.rec (motive:=fun _=>TV3Put) ⟨fun b n=>TV3.rec (motive:=fun _=>TV2→TV3) (fun a0 a1 a2 a3 a4 a5 a6 a7 a8 a9 a10 a11 a12 a13 _ a15 b=>⟨a0,a1,a2,a3,a4,a5,a6,a7,a8,a9,a10,a11,a12,a13,b,a15⟩) n b⟩ (fun _ _=>⟨fun b n=>TV3.rec (motive:=fun _=>TV2→TV3) (fun a0 a1 a2 a3 a4 a5 a6 a7 a8 a9 a10 a11 a12 a13 a14 _ b=>⟨a0,a1,a2,a3,a4,a5,a6,a7,a8,a9,a10,a11,a12,a13,a14,b⟩) n b⟩) d13)) d12)) d11)) d10)) d9)) d8)) d7)) d6)) d5)) d4)) d3)) d2)) d1)) d0)) d)
def TV3.sel (d:Nat) (n:TV3):TV2:=(selC d).f n
def TV3.put (d:Nat) (b:TV2) (n:TV3):TV3:=(putC d).f b n
def TV3.rep (b:TV2):TV3:=⟨b,b,b,b,b,b,b,b,b,b,b,b,b,b,b,b⟩
theorem TV3.sel_put {d d':Nat} (h:d<16) (h':d'<16) (b:TV2) (n:TV3):sel d (put d' b n)=if d=d' then b else sel d n:=by
 have k:=sixteen h
 have k':=sixteen h'
 clear h h'
 obtain ⟨a0,a1,a2,a3,a4,a5,a6,a7,a8,a9,a10,a11,a12,a13,a14,a15⟩:=n
 rcases k with rfl|rfl|rfl|rfl|rfl|rfl|rfl|rfl|rfl|rfl|rfl|rfl|rfl|rfl|rfl|rfl<;>rcases k' with rfl|rfl|rfl|rfl|rfl|rfl|rfl|rfl|rfl|rfl|rfl|rfl|rfl|rfl|rfl|rfl<;>rfl
theorem TV3.sel_rep {d:Nat} (h:d<16) (b:TV2):sel d (rep b)=b:=by
 have k:=sixteen h
 clear h
 rcases k with rfl|rfl|rfl|rfl|rfl|rfl|rfl|rfl|rfl|rfl|rfl|rfl|rfl|rfl|rfl|rfl<;>rfl
structure TV where
 lo:TV3
 hi:BT Value
structure TVGet where
 f:TV→Option Value
structure TVSet where
 f:Option Value→TV→TV
def TV.e:TV:=⟨TV3.rep (TV2.rep (TV1.rep none)),.e⟩
def TV.getB (k:Nat):TVGet:=
 Bool.rec (motive:=fun _=>TVGet) ⟨fun t=>BT.getP (way k) t.hi⟩ ⟨fun t=>(TV1.selC (Nat.mod k 16)).f ((TV2.selC (Nat.mod (Nat.div k 16) 16)).f ((TV3.selC (Nat.div k 256)).f t.lo))⟩ (Nat.blt k 4096)
def TV.putM (y z:Nat) (v:Option Value) (p:TV2):TV2:=(TV2.putC y).f ((TV1.putC z).f v ((TV2.selC y).f p)) p
def TV.setB (k:Nat):TVSet:=
 Bool.rec (motive:=fun _=>TVSet) ⟨fun v t=>TV.rec (motive:=fun _=>TV) (fun lo hi=>⟨lo,BT.setP v (way k) hi⟩) t⟩
  ⟨fun v t=>⟨(TV3.putC (Nat.div k 256)).f (TV.putM (Nat.mod (Nat.div k 16) 16) (Nat.mod k 16) v ((TV3.selC (Nat.div k 256)).f t.lo)) t.lo,t.hi⟩⟩ (Nat.blt k 4096)
def TV.get (t:TV) (k:Nat):Option Value:=(TV.getB k).f t
def TV.set (t:TV) (k:Nat) (v:Option Value):TV:=(TV.setB k).f v t
theorem TV.get_lo {k:Nat} (h:k<4096) (t:TV):t.get k=TV1.sel (k%16) (TV2.sel (k/16%16) (TV3.sel (k/256) t.lo)):=by
 have:Nat.blt k 4096=true:=Nat.ble_eq_true_of_le h
 unfold TV.get TV.getB;rw [this];rfl
theorem TV.get_hi {k:Nat} (h:¬k<4096) (t:TV):t.get k=BT.getP (way k) t.hi:=by
 have:Nat.blt k 4096=false:=by
  cases hb:Nat.blt k 4096 with
  |false=>rfl
  |true=>exact absurd (Nat.le_of_ble_eq_true hb) h
 unfold TV.get TV.getB;rw [this]
theorem TV.set_lo {k:Nat} (h:k<4096) (t:TV) (v:Option Value):t.set k v=⟨TV3.put (k/256) (TV2.put (k/16%16) (TV1.put (k%16) v (TV2.sel (k/16%16) (TV3.sel (k/256) t.lo))) (TV3.sel (k/256) t.lo)) t.lo,t.hi⟩:=by
 have:Nat.blt k 4096=true:=Nat.ble_eq_true_of_le h
 unfold TV.set TV.setB;rw [this];rfl
theorem TV.set_hi {k:Nat} (h:¬k<4096) (t:TV) (v:Option Value):t.set k v=⟨t.lo,BT.setP v (way k) t.hi⟩:=by
 have:Nat.blt k 4096=false:=by
  cases hb:Nat.blt k 4096 with
  |false=>rfl
  |true=>exact absurd (Nat.le_of_ble_eq_true hb) h
 unfold TV.set TV.setB;rw [this]
theorem TV.get_set (t:TV) (k j:Nat) (v:Option Value):(t.set k v).get j=if j=k then v else t.get j:=by
 by_cases hk:k<4096<;>by_cases hj:j<4096
 ·rw [TV.set_lo hk,TV.get_lo hj,TV.get_lo hj,TV3.sel_put (by omega) (by omega)]
  by_cases h1:j/256=k/256
  ·rw [if_pos h1,TV2.sel_put (by omega) (by omega)]
   by_cases h2:j/16%16=k/16%16
   ·rw [if_pos h2,TV1.sel_put (by omega) (by omega)]
    by_cases h3:j%16=k%16
    ·rw [if_pos h3,if_pos (by omega)]
    ·rw [if_neg h3,if_neg (by omega),h1,h2]
   ·rw [if_neg h2,if_neg (by omega),h1]
  ·rw [if_neg h1,if_neg (by omega)]
 ·rw [TV.set_lo hk,TV.get_hi hj,TV.get_hi hj,if_neg (by omega)]
 ·rw [TV.set_hi hk,TV.get_lo hj,TV.get_lo hj,if_neg (by omega)]
 ·rw [TV.set_hi hk,TV.get_hi hj,TV.get_hi hj,BT.getP_setP]
  by_cases h:j=k
  ·subst h;simp
  ·rw [if_neg h,if_neg (fun e=>h (way_inj e))]
theorem TV.get_e (k:Nat):TV.e.get k=none:=by
 by_cases h:k<4096
 ·rw [TV.get_lo h]
  show TV1.sel (k%16) (TV2.sel (k/16%16) (TV3.sel (k/256) (TV3.rep (TV2.rep (TV1.rep none)))))=none
  rw [TV3.sel_rep (by omega),TV2.sel_rep (by omega),TV1.sel_rep (by omega)]
 ·rw [TV.get_hi h];exact BT.getP_e _
inductive AObj where
 |cells (cs:List Value)
 |map (es:List MapEntry) (clock:Nat)
 |text (s:ByteArray) (pos:Nat)
 |walk (m:Option Nat) (since:Nat) (seen:List Nat) (stepped:Nat)
 |round (st:LoopState) (pend:Option Code) (tm:TV) (sz:Nat) (params:Array Tmp) (assign body:Code)
 |defs (ds:Bool)
structure TH1 where
 a0:Option AObj
 a1:Option AObj
 a2:Option AObj
 a3:Option AObj
 a4:Option AObj
 a5:Option AObj
 a6:Option AObj
 a7:Option AObj
 a8:Option AObj
 a9:Option AObj
 a10:Option AObj
 a11:Option AObj
 a12:Option AObj
 a13:Option AObj
 a14:Option AObj
 a15:Option AObj
structure TH1Sel where
 f:TH1→Option AObj
structure TH1Put where
 f:Option AObj→TH1→TH1
def TH1.selC_0_2 (d:Nat):TH1Sel:=Bool.rec (motive:=fun _=>TH1Sel) ⟨fun n=>n.a0⟩ ⟨fun n=>n.a1⟩ (Nat.ble 1 d)
def TH1.selC_2_4 (d:Nat):TH1Sel:=Bool.rec (motive:=fun _=>TH1Sel) ⟨fun n=>n.a2⟩ ⟨fun n=>n.a3⟩ (Nat.ble 3 d)
def TH1.selC_0_4 (d:Nat):TH1Sel:=Bool.rec (motive:=fun _=>TH1Sel) (TH1.selC_0_2 d) (TH1.selC_2_4 d) (Nat.ble 2 d)
def TH1.selC_4_6 (d:Nat):TH1Sel:=Bool.rec (motive:=fun _=>TH1Sel) ⟨fun n=>n.a4⟩ ⟨fun n=>n.a5⟩ (Nat.ble 5 d)
def TH1.selC_6_8 (d:Nat):TH1Sel:=Bool.rec (motive:=fun _=>TH1Sel) ⟨fun n=>n.a6⟩ ⟨fun n=>n.a7⟩ (Nat.ble 7 d)
def TH1.selC_4_8 (d:Nat):TH1Sel:=Bool.rec (motive:=fun _=>TH1Sel) (TH1.selC_4_6 d) (TH1.selC_6_8 d) (Nat.ble 6 d)
def TH1.selC_0_8 (d:Nat):TH1Sel:=Bool.rec (motive:=fun _=>TH1Sel) (TH1.selC_0_4 d) (TH1.selC_4_8 d) (Nat.ble 4 d)
def TH1.selC_8_10 (d:Nat):TH1Sel:=Bool.rec (motive:=fun _=>TH1Sel) ⟨fun n=>n.a8⟩ ⟨fun n=>n.a9⟩ (Nat.ble 9 d)
def TH1.selC_10_12 (d:Nat):TH1Sel:=Bool.rec (motive:=fun _=>TH1Sel) ⟨fun n=>n.a10⟩ ⟨fun n=>n.a11⟩ (Nat.ble 11 d)
def TH1.selC_8_12 (d:Nat):TH1Sel:=Bool.rec (motive:=fun _=>TH1Sel) (TH1.selC_8_10 d) (TH1.selC_10_12 d) (Nat.ble 10 d)
def TH1.selC_12_14 (d:Nat):TH1Sel:=Bool.rec (motive:=fun _=>TH1Sel) ⟨fun n=>n.a12⟩ ⟨fun n=>n.a13⟩ (Nat.ble 13 d)
def TH1.selC_14_16 (d:Nat):TH1Sel:=Bool.rec (motive:=fun _=>TH1Sel) ⟨fun n=>n.a14⟩ ⟨fun n=>n.a15⟩ (Nat.ble 15 d)
def TH1.selC_12_16 (d:Nat):TH1Sel:=Bool.rec (motive:=fun _=>TH1Sel) (TH1.selC_12_14 d) (TH1.selC_14_16 d) (Nat.ble 14 d)
def TH1.selC_8_16 (d:Nat):TH1Sel:=Bool.rec (motive:=fun _=>TH1Sel) (TH1.selC_8_12 d) (TH1.selC_12_16 d) (Nat.ble 12 d)
def TH1.selC (d:Nat):TH1Sel:=Bool.rec (motive:=fun _=>TH1Sel) (TH1.selC_0_8 d) (TH1.selC_8_16 d) (Nat.ble 8 d)
def TH1.putC_0_2 (d:Nat):TH1Put:=Bool.rec (motive:=fun _=>TH1Put) ⟨fun b n=>TH1.rec (motive:=fun _=>Option AObj→TH1) (fun _ a1 a2 a3 a4 a5 a6 a7 a8 a9 a10 a11 a12 a13 a14 a15 b=>⟨b,a1,a2,a3,a4,a5,a6,a7,a8,a9,a10,a11,a12,a13,a14,a15⟩) n b⟩ ⟨fun b n=>TH1.rec (motive:=fun _=>Option AObj→TH1) (fun a0 _ a2 a3 a4 a5 a6 a7 a8 a9 a10 a11 a12 a13 a14 a15 b=>⟨a0,b,a2,a3,a4,a5,a6,a7,a8,a9,a10,a11,a12,a13,a14,a15⟩) n b⟩ (Nat.ble 1 d)
def TH1.putC_2_4 (d:Nat):TH1Put:=Bool.rec (motive:=fun _=>TH1Put) ⟨fun b n=>TH1.rec (motive:=fun _=>Option AObj→TH1) (fun a0 a1 _ a3 a4 a5 a6 a7 a8 a9 a10 a11 a12 a13 a14 a15 b=>⟨a0,a1,b,a3,a4,a5,a6,a7,a8,a9,a10,a11,a12,a13,a14,a15⟩) n b⟩ ⟨fun b n=>TH1.rec (motive:=fun _=>Option AObj→TH1) (fun a0 a1 a2 _ a4 a5 a6 a7 a8 a9 a10 a11 a12 a13 a14 a15 b=>⟨a0,a1,a2,b,a4,a5,a6,a7,a8,a9,a10,a11,a12,a13,a14,a15⟩) n b⟩ (Nat.ble 3 d)
def TH1.putC_0_4 (d:Nat):TH1Put:=Bool.rec (motive:=fun _=>TH1Put) (TH1.putC_0_2 d) (TH1.putC_2_4 d) (Nat.ble 2 d)
def TH1.putC_4_6 (d:Nat):TH1Put:=Bool.rec (motive:=fun _=>TH1Put) ⟨fun b n=>TH1.rec (motive:=fun _=>Option AObj→TH1) (fun a0 a1 a2 a3 _ a5 a6 a7 a8 a9 a10 a11 a12 a13 a14 a15 b=>⟨a0,a1,a2,a3,b,a5,a6,a7,a8,a9,a10,a11,a12,a13,a14,a15⟩) n b⟩ ⟨fun b n=>TH1.rec (motive:=fun _=>Option AObj→TH1) (fun a0 a1 a2 a3 a4 _ a6 a7 a8 a9 a10 a11 a12 a13 a14 a15 b=>⟨a0,a1,a2,a3,a4,b,a6,a7,a8,a9,a10,a11,a12,a13,a14,a15⟩) n b⟩ (Nat.ble 5 d)
def TH1.putC_6_8 (d:Nat):TH1Put:=Bool.rec (motive:=fun _=>TH1Put) ⟨fun b n=>TH1.rec (motive:=fun _=>Option AObj→TH1) (fun a0 a1 a2 a3 a4 a5 _ a7 a8 a9 a10 a11 a12 a13 a14 a15 b=>⟨a0,a1,a2,a3,a4,a5,b,a7,a8,a9,a10,a11,a12,a13,a14,a15⟩) n b⟩ ⟨fun b n=>TH1.rec (motive:=fun _=>Option AObj→TH1) (fun a0 a1 a2 a3 a4 a5 a6 _ a8 a9 a10 a11 a12 a13 a14 a15 b=>⟨a0,a1,a2,a3,a4,a5,a6,b,a8,a9,a10,a11,a12,a13,a14,a15⟩) n b⟩ (Nat.ble 7 d)
def TH1.putC_4_8 (d:Nat):TH1Put:=Bool.rec (motive:=fun _=>TH1Put) (TH1.putC_4_6 d) (TH1.putC_6_8 d) (Nat.ble 6 d)
def TH1.putC_0_8 (d:Nat):TH1Put:=Bool.rec (motive:=fun _=>TH1Put) (TH1.putC_0_4 d) (TH1.putC_4_8 d) (Nat.ble 4 d)
def TH1.putC_8_10 (d:Nat):TH1Put:=Bool.rec (motive:=fun _=>TH1Put) ⟨fun b n=>TH1.rec (motive:=fun _=>Option AObj→TH1) (fun a0 a1 a2 a3 a4 a5 a6 a7 _ a9 a10 a11 a12 a13 a14 a15 b=>⟨a0,a1,a2,a3,a4,a5,a6,a7,b,a9,a10,a11,a12,a13,a14,a15⟩) n b⟩ ⟨fun b n=>TH1.rec (motive:=fun _=>Option AObj→TH1) (fun a0 a1 a2 a3 a4 a5 a6 a7 a8 _ a10 a11 a12 a13 a14 a15 b=>⟨a0,a1,a2,a3,a4,a5,a6,a7,a8,b,a10,a11,a12,a13,a14,a15⟩) n b⟩ (Nat.ble 9 d)
def TH1.putC_10_12 (d:Nat):TH1Put:=Bool.rec (motive:=fun _=>TH1Put) ⟨fun b n=>TH1.rec (motive:=fun _=>Option AObj→TH1) (fun a0 a1 a2 a3 a4 a5 a6 a7 a8 a9 _ a11 a12 a13 a14 a15 b=>⟨a0,a1,a2,a3,a4,a5,a6,a7,a8,a9,b,a11,a12,a13,a14,a15⟩) n b⟩ ⟨fun b n=>TH1.rec (motive:=fun _=>Option AObj→TH1) (fun a0 a1 a2 a3 a4 a5 a6 a7 a8 a9 a10 _ a12 a13 a14 a15 b=>⟨a0,a1,a2,a3,a4,a5,a6,a7,a8,a9,a10,b,a12,a13,a14,a15⟩) n b⟩ (Nat.ble 11 d)
def TH1.putC_8_12 (d:Nat):TH1Put:=Bool.rec (motive:=fun _=>TH1Put) (TH1.putC_8_10 d) (TH1.putC_10_12 d) (Nat.ble 10 d)
def TH1.putC_12_14 (d:Nat):TH1Put:=Bool.rec (motive:=fun _=>TH1Put) ⟨fun b n=>TH1.rec (motive:=fun _=>Option AObj→TH1) (fun a0 a1 a2 a3 a4 a5 a6 a7 a8 a9 a10 a11 _ a13 a14 a15 b=>⟨a0,a1,a2,a3,a4,a5,a6,a7,a8,a9,a10,a11,b,a13,a14,a15⟩) n b⟩ ⟨fun b n=>TH1.rec (motive:=fun _=>Option AObj→TH1) (fun a0 a1 a2 a3 a4 a5 a6 a7 a8 a9 a10 a11 a12 _ a14 a15 b=>⟨a0,a1,a2,a3,a4,a5,a6,a7,a8,a9,a10,a11,a12,b,a14,a15⟩) n b⟩ (Nat.ble 13 d)
def TH1.putC_14_16 (d:Nat):TH1Put:=Bool.rec (motive:=fun _=>TH1Put) ⟨fun b n=>TH1.rec (motive:=fun _=>Option AObj→TH1) (fun a0 a1 a2 a3 a4 a5 a6 a7 a8 a9 a10 a11 a12 a13 _ a15 b=>⟨a0,a1,a2,a3,a4,a5,a6,a7,a8,a9,a10,a11,a12,a13,b,a15⟩) n b⟩ ⟨fun b n=>TH1.rec (motive:=fun _=>Option AObj→TH1) (fun a0 a1 a2 a3 a4 a5 a6 a7 a8 a9 a10 a11 a12 a13 a14 _ b=>⟨a0,a1,a2,a3,a4,a5,a6,a7,a8,a9,a10,a11,a12,a13,a14,b⟩) n b⟩ (Nat.ble 15 d)
def TH1.putC_12_16 (d:Nat):TH1Put:=Bool.rec (motive:=fun _=>TH1Put) (TH1.putC_12_14 d) (TH1.putC_14_16 d) (Nat.ble 14 d)
def TH1.putC_8_16 (d:Nat):TH1Put:=Bool.rec (motive:=fun _=>TH1Put) (TH1.putC_8_12 d) (TH1.putC_12_16 d) (Nat.ble 12 d)
def TH1.putC (d:Nat):TH1Put:=Bool.rec (motive:=fun _=>TH1Put) (TH1.putC_0_8 d) (TH1.putC_8_16 d) (Nat.ble 8 d)
def TH1.sel (d:Nat) (n:TH1):Option AObj:=(selC d).f n
def TH1.put (d:Nat) (b:Option AObj) (n:TH1):TH1:=(putC d).f b n
def TH1.rep (b:Option AObj):TH1:=⟨b,b,b,b,b,b,b,b,b,b,b,b,b,b,b,b⟩
theorem TH1.sel_put {d d':Nat} (h:d<16) (h':d'<16) (b:Option AObj) (n:TH1):sel d (put d' b n)=if d=d' then b else sel d n:=by
 have k:=sixteen h
 have k':=sixteen h'
 clear h h'
 obtain ⟨a0,a1,a2,a3,a4,a5,a6,a7,a8,a9,a10,a11,a12,a13,a14,a15⟩:=n
 rcases k with rfl|rfl|rfl|rfl|rfl|rfl|rfl|rfl|rfl|rfl|rfl|rfl|rfl|rfl|rfl|rfl<;>rcases k' with rfl|rfl|rfl|rfl|rfl|rfl|rfl|rfl|rfl|rfl|rfl|rfl|rfl|rfl|rfl|rfl<;>rfl
theorem TH1.sel_rep {d:Nat} (h:d<16) (b:Option AObj):sel d (rep b)=b:=by
 have k:=sixteen h
 clear h
 rcases k with rfl|rfl|rfl|rfl|rfl|rfl|rfl|rfl|rfl|rfl|rfl|rfl|rfl|rfl|rfl|rfl<;>rfl
structure TH2 where
 a0:TH1
 a1:TH1
 a2:TH1
 a3:TH1
 a4:TH1
 a5:TH1
 a6:TH1
 a7:TH1
 a8:TH1
 a9:TH1
 a10:TH1
 a11:TH1
 a12:TH1
 a13:TH1
 a14:TH1
 a15:TH1
structure TH2Sel where
 f:TH2→TH1
structure TH2Put where
 f:TH1→TH2→TH2
def TH2.selC_0_2 (d:Nat):TH2Sel:=Bool.rec (motive:=fun _=>TH2Sel) ⟨fun n=>n.a0⟩ ⟨fun n=>n.a1⟩ (Nat.ble 1 d)
def TH2.selC_2_4 (d:Nat):TH2Sel:=Bool.rec (motive:=fun _=>TH2Sel) ⟨fun n=>n.a2⟩ ⟨fun n=>n.a3⟩ (Nat.ble 3 d)
def TH2.selC_0_4 (d:Nat):TH2Sel:=Bool.rec (motive:=fun _=>TH2Sel) (TH2.selC_0_2 d) (TH2.selC_2_4 d) (Nat.ble 2 d)
def TH2.selC_4_6 (d:Nat):TH2Sel:=Bool.rec (motive:=fun _=>TH2Sel) ⟨fun n=>n.a4⟩ ⟨fun n=>n.a5⟩ (Nat.ble 5 d)
def TH2.selC_6_8 (d:Nat):TH2Sel:=Bool.rec (motive:=fun _=>TH2Sel) ⟨fun n=>n.a6⟩ ⟨fun n=>n.a7⟩ (Nat.ble 7 d)
def TH2.selC_4_8 (d:Nat):TH2Sel:=Bool.rec (motive:=fun _=>TH2Sel) (TH2.selC_4_6 d) (TH2.selC_6_8 d) (Nat.ble 6 d)
def TH2.selC_0_8 (d:Nat):TH2Sel:=Bool.rec (motive:=fun _=>TH2Sel) (TH2.selC_0_4 d) (TH2.selC_4_8 d) (Nat.ble 4 d)
def TH2.selC_8_10 (d:Nat):TH2Sel:=Bool.rec (motive:=fun _=>TH2Sel) ⟨fun n=>n.a8⟩ ⟨fun n=>n.a9⟩ (Nat.ble 9 d)
def TH2.selC_10_12 (d:Nat):TH2Sel:=Bool.rec (motive:=fun _=>TH2Sel) ⟨fun n=>n.a10⟩ ⟨fun n=>n.a11⟩ (Nat.ble 11 d)
def TH2.selC_8_12 (d:Nat):TH2Sel:=Bool.rec (motive:=fun _=>TH2Sel) (TH2.selC_8_10 d) (TH2.selC_10_12 d) (Nat.ble 10 d)
def TH2.selC_12_14 (d:Nat):TH2Sel:=Bool.rec (motive:=fun _=>TH2Sel) ⟨fun n=>n.a12⟩ ⟨fun n=>n.a13⟩ (Nat.ble 13 d)
def TH2.selC_14_16 (d:Nat):TH2Sel:=Bool.rec (motive:=fun _=>TH2Sel) ⟨fun n=>n.a14⟩ ⟨fun n=>n.a15⟩ (Nat.ble 15 d)
def TH2.selC_12_16 (d:Nat):TH2Sel:=Bool.rec (motive:=fun _=>TH2Sel) (TH2.selC_12_14 d) (TH2.selC_14_16 d) (Nat.ble 14 d)
def TH2.selC_8_16 (d:Nat):TH2Sel:=Bool.rec (motive:=fun _=>TH2Sel) (TH2.selC_8_12 d) (TH2.selC_12_16 d) (Nat.ble 12 d)
def TH2.selC (d:Nat):TH2Sel:=Bool.rec (motive:=fun _=>TH2Sel) (TH2.selC_0_8 d) (TH2.selC_8_16 d) (Nat.ble 8 d)
def TH2.putC_0_2 (d:Nat):TH2Put:=Bool.rec (motive:=fun _=>TH2Put) ⟨fun b n=>TH2.rec (motive:=fun _=>TH1→TH2) (fun _ a1 a2 a3 a4 a5 a6 a7 a8 a9 a10 a11 a12 a13 a14 a15 b=>⟨b,a1,a2,a3,a4,a5,a6,a7,a8,a9,a10,a11,a12,a13,a14,a15⟩) n b⟩ ⟨fun b n=>TH2.rec (motive:=fun _=>TH1→TH2) (fun a0 _ a2 a3 a4 a5 a6 a7 a8 a9 a10 a11 a12 a13 a14 a15 b=>⟨a0,b,a2,a3,a4,a5,a6,a7,a8,a9,a10,a11,a12,a13,a14,a15⟩) n b⟩ (Nat.ble 1 d)
def TH2.putC_2_4 (d:Nat):TH2Put:=Bool.rec (motive:=fun _=>TH2Put) ⟨fun b n=>TH2.rec (motive:=fun _=>TH1→TH2) (fun a0 a1 _ a3 a4 a5 a6 a7 a8 a9 a10 a11 a12 a13 a14 a15 b=>⟨a0,a1,b,a3,a4,a5,a6,a7,a8,a9,a10,a11,a12,a13,a14,a15⟩) n b⟩ ⟨fun b n=>TH2.rec (motive:=fun _=>TH1→TH2) (fun a0 a1 a2 _ a4 a5 a6 a7 a8 a9 a10 a11 a12 a13 a14 a15 b=>⟨a0,a1,a2,b,a4,a5,a6,a7,a8,a9,a10,a11,a12,a13,a14,a15⟩) n b⟩ (Nat.ble 3 d)
def TH2.putC_0_4 (d:Nat):TH2Put:=Bool.rec (motive:=fun _=>TH2Put) (TH2.putC_0_2 d) (TH2.putC_2_4 d) (Nat.ble 2 d)
def TH2.putC_4_6 (d:Nat):TH2Put:=Bool.rec (motive:=fun _=>TH2Put) ⟨fun b n=>TH2.rec (motive:=fun _=>TH1→TH2) (fun a0 a1 a2 a3 _ a5 a6 a7 a8 a9 a10 a11 a12 a13 a14 a15 b=>⟨a0,a1,a2,a3,b,a5,a6,a7,a8,a9,a10,a11,a12,a13,a14,a15⟩) n b⟩ ⟨fun b n=>TH2.rec (motive:=fun _=>TH1→TH2) (fun a0 a1 a2 a3 a4 _ a6 a7 a8 a9 a10 a11 a12 a13 a14 a15 b=>⟨a0,a1,a2,a3,a4,b,a6,a7,a8,a9,a10,a11,a12,a13,a14,a15⟩) n b⟩ (Nat.ble 5 d)
def TH2.putC_6_8 (d:Nat):TH2Put:=Bool.rec (motive:=fun _=>TH2Put) ⟨fun b n=>TH2.rec (motive:=fun _=>TH1→TH2) (fun a0 a1 a2 a3 a4 a5 _ a7 a8 a9 a10 a11 a12 a13 a14 a15 b=>⟨a0,a1,a2,a3,a4,a5,b,a7,a8,a9,a10,a11,a12,a13,a14,a15⟩) n b⟩ ⟨fun b n=>TH2.rec (motive:=fun _=>TH1→TH2) (fun a0 a1 a2 a3 a4 a5 a6 _ a8 a9 a10 a11 a12 a13 a14 a15 b=>⟨a0,a1,a2,a3,a4,a5,a6,b,a8,a9,a10,a11,a12,a13,a14,a15⟩) n b⟩ (Nat.ble 7 d)
def TH2.putC_4_8 (d:Nat):TH2Put:=Bool.rec (motive:=fun _=>TH2Put) (TH2.putC_4_6 d) (TH2.putC_6_8 d) (Nat.ble 6 d)
def TH2.putC_0_8 (d:Nat):TH2Put:=Bool.rec (motive:=fun _=>TH2Put) (TH2.putC_0_4 d) (TH2.putC_4_8 d) (Nat.ble 4 d)
def TH2.putC_8_10 (d:Nat):TH2Put:=Bool.rec (motive:=fun _=>TH2Put) ⟨fun b n=>TH2.rec (motive:=fun _=>TH1→TH2) (fun a0 a1 a2 a3 a4 a5 a6 a7 _ a9 a10 a11 a12 a13 a14 a15 b=>⟨a0,a1,a2,a3,a4,a5,a6,a7,b,a9,a10,a11,a12,a13,a14,a15⟩) n b⟩ ⟨fun b n=>TH2.rec (motive:=fun _=>TH1→TH2) (fun a0 a1 a2 a3 a4 a5 a6 a7 a8 _ a10 a11 a12 a13 a14 a15 b=>⟨a0,a1,a2,a3,a4,a5,a6,a7,a8,b,a10,a11,a12,a13,a14,a15⟩) n b⟩ (Nat.ble 9 d)
def TH2.putC_10_12 (d:Nat):TH2Put:=Bool.rec (motive:=fun _=>TH2Put) ⟨fun b n=>TH2.rec (motive:=fun _=>TH1→TH2) (fun a0 a1 a2 a3 a4 a5 a6 a7 a8 a9 _ a11 a12 a13 a14 a15 b=>⟨a0,a1,a2,a3,a4,a5,a6,a7,a8,a9,b,a11,a12,a13,a14,a15⟩) n b⟩ ⟨fun b n=>TH2.rec (motive:=fun _=>TH1→TH2) (fun a0 a1 a2 a3 a4 a5 a6 a7 a8 a9 a10 _ a12 a13 a14 a15 b=>⟨a0,a1,a2,a3,a4,a5,a6,a7,a8,a9,a10,b,a12,a13,a14,a15⟩) n b⟩ (Nat.ble 11 d)
def TH2.putC_8_12 (d:Nat):TH2Put:=Bool.rec (motive:=fun _=>TH2Put) (TH2.putC_8_10 d) (TH2.putC_10_12 d) (Nat.ble 10 d)
def TH2.putC_12_14 (d:Nat):TH2Put:=Bool.rec (motive:=fun _=>TH2Put) ⟨fun b n=>TH2.rec (motive:=fun _=>TH1→TH2) (fun a0 a1 a2 a3 a4 a5 a6 a7 a8 a9 a10 a11 _ a13 a14 a15 b=>⟨a0,a1,a2,a3,a4,a5,a6,a7,a8,a9,a10,a11,b,a13,a14,a15⟩) n b⟩ ⟨fun b n=>TH2.rec (motive:=fun _=>TH1→TH2) (fun a0 a1 a2 a3 a4 a5 a6 a7 a8 a9 a10 a11 a12 _ a14 a15 b=>⟨a0,a1,a2,a3,a4,a5,a6,a7,a8,a9,a10,a11,a12,b,a14,a15⟩) n b⟩ (Nat.ble 13 d)
def TH2.putC_14_16 (d:Nat):TH2Put:=Bool.rec (motive:=fun _=>TH2Put) ⟨fun b n=>TH2.rec (motive:=fun _=>TH1→TH2) (fun a0 a1 a2 a3 a4 a5 a6 a7 a8 a9 a10 a11 a12 a13 _ a15 b=>⟨a0,a1,a2,a3,a4,a5,a6,a7,a8,a9,a10,a11,a12,a13,b,a15⟩) n b⟩ ⟨fun b n=>TH2.rec (motive:=fun _=>TH1→TH2) (fun a0 a1 a2 a3 a4 a5 a6 a7 a8 a9 a10 a11 a12 a13 a14 _ b=>⟨a0,a1,a2,a3,a4,a5,a6,a7,a8,a9,a10,a11,a12,a13,a14,b⟩) n b⟩ (Nat.ble 15 d)
def TH2.putC_12_16 (d:Nat):TH2Put:=Bool.rec (motive:=fun _=>TH2Put) (TH2.putC_12_14 d) (TH2.putC_14_16 d) (Nat.ble 14 d)
def TH2.putC_8_16 (d:Nat):TH2Put:=Bool.rec (motive:=fun _=>TH2Put) (TH2.putC_8_12 d) (TH2.putC_12_16 d) (Nat.ble 12 d)
def TH2.putC (d:Nat):TH2Put:=Bool.rec (motive:=fun _=>TH2Put) (TH2.putC_0_8 d) (TH2.putC_8_16 d) (Nat.ble 8 d)
def TH2.sel (d:Nat) (n:TH2):TH1:=(selC d).f n
def TH2.put (d:Nat) (b:TH1) (n:TH2):TH2:=(putC d).f b n
def TH2.rep (b:TH1):TH2:=⟨b,b,b,b,b,b,b,b,b,b,b,b,b,b,b,b⟩
theorem TH2.sel_put {d d':Nat} (h:d<16) (h':d'<16) (b:TH1) (n:TH2):sel d (put d' b n)=if d=d' then b else sel d n:=by
 have k:=sixteen h
 have k':=sixteen h'
 clear h h'
 obtain ⟨a0,a1,a2,a3,a4,a5,a6,a7,a8,a9,a10,a11,a12,a13,a14,a15⟩:=n
 rcases k with rfl|rfl|rfl|rfl|rfl|rfl|rfl|rfl|rfl|rfl|rfl|rfl|rfl|rfl|rfl|rfl<;>rcases k' with rfl|rfl|rfl|rfl|rfl|rfl|rfl|rfl|rfl|rfl|rfl|rfl|rfl|rfl|rfl|rfl<;>rfl
theorem TH2.sel_rep {d:Nat} (h:d<16) (b:TH1):sel d (rep b)=b:=by
 have k:=sixteen h
 clear h
 rcases k with rfl|rfl|rfl|rfl|rfl|rfl|rfl|rfl|rfl|rfl|rfl|rfl|rfl|rfl|rfl|rfl<;>rfl
structure TH3 where
 a0:TH2
 a1:TH2
 a2:TH2
 a3:TH2
 a4:TH2
 a5:TH2
 a6:TH2
 a7:TH2
 a8:TH2
 a9:TH2
 a10:TH2
 a11:TH2
 a12:TH2
 a13:TH2
 a14:TH2
 a15:TH2
structure TH3Sel where
 f:TH3→TH2
structure TH3Put where
 f:TH2→TH3→TH3
def TH3.selC_0_2 (d:Nat):TH3Sel:=Bool.rec (motive:=fun _=>TH3Sel) ⟨fun n=>n.a0⟩ ⟨fun n=>n.a1⟩ (Nat.ble 1 d)
def TH3.selC_2_4 (d:Nat):TH3Sel:=Bool.rec (motive:=fun _=>TH3Sel) ⟨fun n=>n.a2⟩ ⟨fun n=>n.a3⟩ (Nat.ble 3 d)
def TH3.selC_0_4 (d:Nat):TH3Sel:=Bool.rec (motive:=fun _=>TH3Sel) (TH3.selC_0_2 d) (TH3.selC_2_4 d) (Nat.ble 2 d)
def TH3.selC_4_6 (d:Nat):TH3Sel:=Bool.rec (motive:=fun _=>TH3Sel) ⟨fun n=>n.a4⟩ ⟨fun n=>n.a5⟩ (Nat.ble 5 d)
def TH3.selC_6_8 (d:Nat):TH3Sel:=Bool.rec (motive:=fun _=>TH3Sel) ⟨fun n=>n.a6⟩ ⟨fun n=>n.a7⟩ (Nat.ble 7 d)
def TH3.selC_4_8 (d:Nat):TH3Sel:=Bool.rec (motive:=fun _=>TH3Sel) (TH3.selC_4_6 d) (TH3.selC_6_8 d) (Nat.ble 6 d)
def TH3.selC_0_8 (d:Nat):TH3Sel:=Bool.rec (motive:=fun _=>TH3Sel) (TH3.selC_0_4 d) (TH3.selC_4_8 d) (Nat.ble 4 d)
def TH3.selC_8_10 (d:Nat):TH3Sel:=Bool.rec (motive:=fun _=>TH3Sel) ⟨fun n=>n.a8⟩ ⟨fun n=>n.a9⟩ (Nat.ble 9 d)
def TH3.selC_10_12 (d:Nat):TH3Sel:=Bool.rec (motive:=fun _=>TH3Sel) ⟨fun n=>n.a10⟩ ⟨fun n=>n.a11⟩ (Nat.ble 11 d)
def TH3.selC_8_12 (d:Nat):TH3Sel:=Bool.rec (motive:=fun _=>TH3Sel) (TH3.selC_8_10 d) (TH3.selC_10_12 d) (Nat.ble 10 d)
def TH3.selC_12_14 (d:Nat):TH3Sel:=Bool.rec (motive:=fun _=>TH3Sel) ⟨fun n=>n.a12⟩ ⟨fun n=>n.a13⟩ (Nat.ble 13 d)
def TH3.selC_14_16 (d:Nat):TH3Sel:=Bool.rec (motive:=fun _=>TH3Sel) ⟨fun n=>n.a14⟩ ⟨fun n=>n.a15⟩ (Nat.ble 15 d)
def TH3.selC_12_16 (d:Nat):TH3Sel:=Bool.rec (motive:=fun _=>TH3Sel) (TH3.selC_12_14 d) (TH3.selC_14_16 d) (Nat.ble 14 d)
def TH3.selC_8_16 (d:Nat):TH3Sel:=Bool.rec (motive:=fun _=>TH3Sel) (TH3.selC_8_12 d) (TH3.selC_12_16 d) (Nat.ble 12 d)
def TH3.selC (d:Nat):TH3Sel:=Bool.rec (motive:=fun _=>TH3Sel) (TH3.selC_0_8 d) (TH3.selC_8_16 d) (Nat.ble 8 d)
def TH3.putC_0_2 (d:Nat):TH3Put:=Bool.rec (motive:=fun _=>TH3Put) ⟨fun b n=>TH3.rec (motive:=fun _=>TH2→TH3) (fun _ a1 a2 a3 a4 a5 a6 a7 a8 a9 a10 a11 a12 a13 a14 a15 b=>⟨b,a1,a2,a3,a4,a5,a6,a7,a8,a9,a10,a11,a12,a13,a14,a15⟩) n b⟩ ⟨fun b n=>TH3.rec (motive:=fun _=>TH2→TH3) (fun a0 _ a2 a3 a4 a5 a6 a7 a8 a9 a10 a11 a12 a13 a14 a15 b=>⟨a0,b,a2,a3,a4,a5,a6,a7,a8,a9,a10,a11,a12,a13,a14,a15⟩) n b⟩ (Nat.ble 1 d)
def TH3.putC_2_4 (d:Nat):TH3Put:=Bool.rec (motive:=fun _=>TH3Put) ⟨fun b n=>TH3.rec (motive:=fun _=>TH2→TH3) (fun a0 a1 _ a3 a4 a5 a6 a7 a8 a9 a10 a11 a12 a13 a14 a15 b=>⟨a0,a1,b,a3,a4,a5,a6,a7,a8,a9,a10,a11,a12,a13,a14,a15⟩) n b⟩ ⟨fun b n=>TH3.rec (motive:=fun _=>TH2→TH3) (fun a0 a1 a2 _ a4 a5 a6 a7 a8 a9 a10 a11 a12 a13 a14 a15 b=>⟨a0,a1,a2,b,a4,a5,a6,a7,a8,a9,a10,a11,a12,a13,a14,a15⟩) n b⟩ (Nat.ble 3 d)
def TH3.putC_0_4 (d:Nat):TH3Put:=Bool.rec (motive:=fun _=>TH3Put) (TH3.putC_0_2 d) (TH3.putC_2_4 d) (Nat.ble 2 d)
def TH3.putC_4_6 (d:Nat):TH3Put:=Bool.rec (motive:=fun _=>TH3Put) ⟨fun b n=>TH3.rec (motive:=fun _=>TH2→TH3) (fun a0 a1 a2 a3 _ a5 a6 a7 a8 a9 a10 a11 a12 a13 a14 a15 b=>⟨a0,a1,a2,a3,b,a5,a6,a7,a8,a9,a10,a11,a12,a13,a14,a15⟩) n b⟩ ⟨fun b n=>TH3.rec (motive:=fun _=>TH2→TH3) (fun a0 a1 a2 a3 a4 _ a6 a7 a8 a9 a10 a11 a12 a13 a14 a15 b=>⟨a0,a1,a2,a3,a4,b,a6,a7,a8,a9,a10,a11,a12,a13,a14,a15⟩) n b⟩ (Nat.ble 5 d)
def TH3.putC_6_8 (d:Nat):TH3Put:=Bool.rec (motive:=fun _=>TH3Put) ⟨fun b n=>TH3.rec (motive:=fun _=>TH2→TH3) (fun a0 a1 a2 a3 a4 a5 _ a7 a8 a9 a10 a11 a12 a13 a14 a15 b=>⟨a0,a1,a2,a3,a4,a5,b,a7,a8,a9,a10,a11,a12,a13,a14,a15⟩) n b⟩ ⟨fun b n=>TH3.rec (motive:=fun _=>TH2→TH3) (fun a0 a1 a2 a3 a4 a5 a6 _ a8 a9 a10 a11 a12 a13 a14 a15 b=>⟨a0,a1,a2,a3,a4,a5,a6,b,a8,a9,a10,a11,a12,a13,a14,a15⟩) n b⟩ (Nat.ble 7 d)
def TH3.putC_4_8 (d:Nat):TH3Put:=Bool.rec (motive:=fun _=>TH3Put) (TH3.putC_4_6 d) (TH3.putC_6_8 d) (Nat.ble 6 d)
def TH3.putC_0_8 (d:Nat):TH3Put:=Bool.rec (motive:=fun _=>TH3Put) (TH3.putC_0_4 d) (TH3.putC_4_8 d) (Nat.ble 4 d)
def TH3.putC_8_10 (d:Nat):TH3Put:=Bool.rec (motive:=fun _=>TH3Put) ⟨fun b n=>TH3.rec (motive:=fun _=>TH2→TH3) (fun a0 a1 a2 a3 a4 a5 a6 a7 _ a9 a10 a11 a12 a13 a14 a15 b=>⟨a0,a1,a2,a3,a4,a5,a6,a7,b,a9,a10,a11,a12,a13,a14,a15⟩) n b⟩ ⟨fun b n=>TH3.rec (motive:=fun _=>TH2→TH3) (fun a0 a1 a2 a3 a4 a5 a6 a7 a8 _ a10 a11 a12 a13 a14 a15 b=>⟨a0,a1,a2,a3,a4,a5,a6,a7,a8,b,a10,a11,a12,a13,a14,a15⟩) n b⟩ (Nat.ble 9 d)
def TH3.putC_10_12 (d:Nat):TH3Put:=Bool.rec (motive:=fun _=>TH3Put) ⟨fun b n=>TH3.rec (motive:=fun _=>TH2→TH3) (fun a0 a1 a2 a3 a4 a5 a6 a7 a8 a9 _ a11 a12 a13 a14 a15 b=>⟨a0,a1,a2,a3,a4,a5,a6,a7,a8,a9,b,a11,a12,a13,a14,a15⟩) n b⟩ ⟨fun b n=>TH3.rec (motive:=fun _=>TH2→TH3) (fun a0 a1 a2 a3 a4 a5 a6 a7 a8 a9 a10 _ a12 a13 a14 a15 b=>⟨a0,a1,a2,a3,a4,a5,a6,a7,a8,a9,a10,b,a12,a13,a14,a15⟩) n b⟩ (Nat.ble 11 d)
def TH3.putC_8_12 (d:Nat):TH3Put:=Bool.rec (motive:=fun _=>TH3Put) (TH3.putC_8_10 d) (TH3.putC_10_12 d) (Nat.ble 10 d)
def TH3.putC_12_14 (d:Nat):TH3Put:=Bool.rec (motive:=fun _=>TH3Put) ⟨fun b n=>TH3.rec (motive:=fun _=>TH2→TH3) (fun a0 a1 a2 a3 a4 a5 a6 a7 a8 a9 a10 a11 _ a13 a14 a15 b=>⟨a0,a1,a2,a3,a4,a5,a6,a7,a8,a9,a10,a11,b,a13,a14,a15⟩) n b⟩ ⟨fun b n=>TH3.rec (motive:=fun _=>TH2→TH3) (fun a0 a1 a2 a3 a4 a5 a6 a7 a8 a9 a10 a11 a12 _ a14 a15 b=>⟨a0,a1,a2,a3,a4,a5,a6,a7,a8,a9,a10,a11,a12,b,a14,a15⟩) n b⟩ (Nat.ble 13 d)
def TH3.putC_14_16 (d:Nat):TH3Put:=Bool.rec (motive:=fun _=>TH3Put) ⟨fun b n=>TH3.rec (motive:=fun _=>TH2→TH3) (fun a0 a1 a2 a3 a4 a5 a6 a7 a8 a9 a10 a11 a12 a13 _ a15 b=>⟨a0,a1,a2,a3,a4,a5,a6,a7,a8,a9,a10,a11,a12,a13,b,a15⟩) n b⟩ ⟨fun b n=>TH3.rec (motive:=fun _=>TH2→TH3) (fun a0 a1 a2 a3 a4 a5 a6 a7 a8 a9 a10 a11 a12 a13 a14 _ b=>⟨a0,a1,a2,a3,a4,a5,a6,a7,a8,a9,a10,a11,a12,a13,a14,b⟩) n b⟩ (Nat.ble 15 d)
def TH3.putC_12_16 (d:Nat):TH3Put:=Bool.rec (motive:=fun _=>TH3Put) (TH3.putC_12_14 d) (TH3.putC_14_16 d) (Nat.ble 14 d)
def TH3.putC_8_16 (d:Nat):TH3Put:=Bool.rec (motive:=fun _=>TH3Put) (TH3.putC_8_12 d) (TH3.putC_12_16 d) (Nat.ble 12 d)
def TH3.putC (d:Nat):TH3Put:=Bool.rec (motive:=fun _=>TH3Put) (TH3.putC_0_8 d) (TH3.putC_8_16 d) (Nat.ble 8 d)
def TH3.sel (d:Nat) (n:TH3):TH2:=(selC d).f n
def TH3.put (d:Nat) (b:TH2) (n:TH3):TH3:=(putC d).f b n
def TH3.rep (b:TH2):TH3:=⟨b,b,b,b,b,b,b,b,b,b,b,b,b,b,b,b⟩
theorem TH3.sel_put {d d':Nat} (h:d<16) (h':d'<16) (b:TH2) (n:TH3):sel d (put d' b n)=if d=d' then b else sel d n:=by
 have k:=sixteen h
 have k':=sixteen h'
 clear h h'
 obtain ⟨a0,a1,a2,a3,a4,a5,a6,a7,a8,a9,a10,a11,a12,a13,a14,a15⟩:=n
 rcases k with rfl|rfl|rfl|rfl|rfl|rfl|rfl|rfl|rfl|rfl|rfl|rfl|rfl|rfl|rfl|rfl<;>rcases k' with rfl|rfl|rfl|rfl|rfl|rfl|rfl|rfl|rfl|rfl|rfl|rfl|rfl|rfl|rfl|rfl<;>rfl
theorem TH3.sel_rep {d:Nat} (h:d<16) (b:TH2):sel d (rep b)=b:=by
 have k:=sixteen h
 clear h
 rcases k with rfl|rfl|rfl|rfl|rfl|rfl|rfl|rfl|rfl|rfl|rfl|rfl|rfl|rfl|rfl|rfl<;>rfl
structure TH where
 lo:TH3
 hi:BT AObj
structure THGet where
 f:TH→Option AObj
structure THSet where
 f:Option AObj→TH→TH
def TH.e:TH:=⟨TH3.rep (TH2.rep (TH1.rep none)),.e⟩
def TH.getB (k:Nat):THGet:=
 Bool.rec (motive:=fun _=>THGet) ⟨fun t=>BT.getP (way k) t.hi⟩ ⟨fun t=>(TH1.selC (Nat.mod k 16)).f ((TH2.selC (Nat.mod (Nat.div k 16) 16)).f ((TH3.selC (Nat.div k 256)).f t.lo))⟩ (Nat.blt k 4096)
def TH.putM (y z:Nat) (v:Option AObj) (p:TH2):TH2:=(TH2.putC y).f ((TH1.putC z).f v ((TH2.selC y).f p)) p
def TH.setB (k:Nat):THSet:=
 Bool.rec (motive:=fun _=>THSet) ⟨fun v t=>TH.rec (motive:=fun _=>TH) (fun lo hi=>⟨lo,BT.setP v (way k) hi⟩) t⟩
  ⟨fun v t=>⟨(TH3.putC (Nat.div k 256)).f (TH.putM (Nat.mod (Nat.div k 16) 16) (Nat.mod k 16) v ((TH3.selC (Nat.div k 256)).f t.lo)) t.lo,t.hi⟩⟩ (Nat.blt k 4096)
def TH.get (t:TH) (k:Nat):Option AObj:=(TH.getB k).f t
def TH.set (t:TH) (k:Nat) (v:Option AObj):TH:=(TH.setB k).f v t
theorem TH.get_lo {k:Nat} (h:k<4096) (t:TH):t.get k=TH1.sel (k%16) (TH2.sel (k/16%16) (TH3.sel (k/256) t.lo)):=by
 have:Nat.blt k 4096=true:=Nat.ble_eq_true_of_le h
 unfold TH.get TH.getB;rw [this];rfl
theorem TH.get_hi {k:Nat} (h:¬k<4096) (t:TH):t.get k=BT.getP (way k) t.hi:=by
 have:Nat.blt k 4096=false:=by
  cases hb:Nat.blt k 4096 with
  |false=>rfl
  |true=>exact absurd (Nat.le_of_ble_eq_true hb) h
 unfold TH.get TH.getB;rw [this]
theorem TH.set_lo {k:Nat} (h:k<4096) (t:TH) (v:Option AObj):t.set k v=⟨TH3.put (k/256) (TH2.put (k/16%16) (TH1.put (k%16) v (TH2.sel (k/16%16) (TH3.sel (k/256) t.lo))) (TH3.sel (k/256) t.lo)) t.lo,t.hi⟩:=by
 have:Nat.blt k 4096=true:=Nat.ble_eq_true_of_le h
 unfold TH.set TH.setB;rw [this];rfl
theorem TH.set_hi {k:Nat} (h:¬k<4096) (t:TH) (v:Option AObj):t.set k v=⟨t.lo,BT.setP v (way k) t.hi⟩:=by
 have:Nat.blt k 4096=false:=by
  cases hb:Nat.blt k 4096 with
  |false=>rfl
  |true=>exact absurd (Nat.le_of_ble_eq_true hb) h
 unfold TH.set TH.setB;rw [this]
theorem TH.get_set (t:TH) (k j:Nat) (v:Option AObj):(t.set k v).get j=if j=k then v else t.get j:=by
 by_cases hk:k<4096<;>by_cases hj:j<4096
 ·rw [TH.set_lo hk,TH.get_lo hj,TH.get_lo hj,TH3.sel_put (by omega) (by omega)]
  by_cases h1:j/256=k/256
  ·rw [if_pos h1,TH2.sel_put (by omega) (by omega)]
   by_cases h2:j/16%16=k/16%16
   ·rw [if_pos h2,TH1.sel_put (by omega) (by omega)]
    by_cases h3:j%16=k%16
    ·rw [if_pos h3,if_pos (by omega)]
    ·rw [if_neg h3,if_neg (by omega),h1,h2]
   ·rw [if_neg h2,if_neg (by omega),h1]
  ·rw [if_neg h1,if_neg (by omega)]
 ·rw [TH.set_lo hk,TH.get_hi hj,TH.get_hi hj,if_neg (by omega)]
 ·rw [TH.set_hi hk,TH.get_lo hj,TH.get_lo hj,if_neg (by omega)]
 ·rw [TH.set_hi hk,TH.get_hi hj,TH.get_hi hj,BT.getP_setP]
  by_cases h:j=k
  ·subst h;simp
  ·rw [if_neg h,if_neg (fun e=>h (way_inj e))]
theorem TH.get_e (k:Nat):TH.e.get k=none:=by
 by_cases h:k<4096
 ·rw [TH.get_lo h]
  show TH1.sel (k%16) (TH2.sel (k/16%16) (TH3.sel (k/256) (TH3.rep (TH2.rep (TH1.rep none)))))=none
  rw [TH3.sel_rep (by omega),TH2.sel_rep (by omega),TH1.sel_rep (by omega)]
 ·rw [TH.get_hi h];exact BT.getP_e _
def pureRun (P:Program) {α:Type}:Sem α→Option α
 | .pure a=>some a
 | .program k=>pureRun P (k P)
 | .mark _ k=>pureRun P k
 |_=>none
def af:Nat→Value→Bool
 |0,_=>false
 |n+1,v=>
  match v with
  | .bool _| .int _ _| .float _ _| .string _| .pointer none| .slice none _ _| .map none| .nilFunc| .nilIface=>true
  | .iface _ x=>af n x
  | .agg cs=>cs.toList.all (af n)
  | .tuple cs=>cs.toList.all (af n)
  | .func (.func _) a b=>a.toList.all (af n)&&b.toList.all (af n)
  |_=>false
def beqBytes (a b:ByteArray):Bool:=a.data.toList==b.data.toList
def veqL (f:Value→Value→Bool):List Value→List Value→Bool
 |[],[]=>true
 |a::l,b::m=>f a b&&veqL f l m
 |_,_=>false
def veq:Nat→Value→Value→Bool
 |0,_,_=>false
 |n+1,v,w=>
  match v,w with
  | .bool a,.bool b=>a==b
  | .int j a,.int k b=>j==k&&a==b
  | .string a,.string b=>beqBytes a b
  | .pointer none,.pointer none=>true
  | .slice none a b,.slice none c d=>a==c&&b==d
  | .map none,.map none=>true
  | .nilFunc,.nilFunc=>true
  | .nilIface,.nilIface=>true
  | .iface t a,.iface u b=>t==u&&veq n a b
  | .agg a,.agg b=>veqL (veq n) a.toList b.toList
  | .tuple a,.tuple b=>veqL (veq n) a.toList b.toList
  | .pointer (some ⟨i,k,none⟩),.pointer (some ⟨j,l,none⟩)=>i==j&&k==l
  | .slice (some ⟨i,k,none⟩) a b,.slice (some ⟨j,l,none⟩) c d=>i==j&&k==l&&a==c&&b==d
  | .map (some i),.map (some j)=>i==j
  | .func (.func f) a b,.func (.func g) c d=>f==g&&veqL (veq n) a.toList c.toList&&veqL (veq n) b.toList d.toList
  |_,_=>false
structure H where
 hp:TH
 nx:Nat
 mw:Nat
structure St where
 tm:TV
 sz:Nat
 df:List Deferred
 h:H
def H.new (h:H) (o:AObj):H:={hp:=h.hp.set h.nx (some o),nx:=h.nx+1,mw:=h.mw}
def H.put (h:H) (i:Nat) (o:Option AObj):H:={hp:=h.hp.set i o,nx:=h.nx,mw:=bif Nat.ble i h.mw then i else h.mw}
def aeval (G:Nat) (tm:TV):Operand→Option Value
 | .tmp t=>tm.get t
 | .const v=>bif af 6 v then some v else none
 | .global g=>bif Nat.blt g G then some (.pointer (some ⟨g,0,none⟩)) else none
 | .func f=>some (.func (.func f) #[] #[])
def aevalL (G:Nat) (tm:TV):List Operand→Option (List Value)
 |[]=>some []
 |x::r=>match aeval G tm x,aevalL G tm r with
  |some v,some l=>some (v::l)
  |_,_=>none
def tput (sz:Nat) (tm:TV) (dst:Option Tmp) (v:Value):TV:=
 match dst with
 |some d=>bif Nat.blt d sz then tm.set d (some v) else tm
 |none=>tm
def exCap (n:Nat):Nat:=2*n+1
def loCap (n size:Nat):Nat:=2*(n+size*4294967296)
def capEx (c:Nat):Bool:=Nat.beq (c%2) 1
def capLo (c:Nat):Nat:=bif capEx c then c/2 else (c/2)%4294967296
def capSize (c:Nat):Nat:=c/8589934592
def sizeA (P:Program) (t:TypeId):Option Nat:=(P.info? t).map (·.size)
def zeroA (P:Program) (t:TypeId):Option Value:=
 match (P.info? t).bind (·.zero) with
 |some v=>bif af 6 v then some v else none
 |none=>none
def isAggA (P:Program) (t:TypeId):Option Bool:=
 match P.underlying t with
 |some (.struct _)|some (.array _ _)=>some true
 |some _=>some false
 |none=>none
def H.cells (h:H) (i:Nat):Option (List Value):=
 match h.hp.get i with
 |some (.cells cs)=>some cs
 |_=>none
def takeN (n:Nat) (l:List Value):Option (List Value):=
 let m:=l.take n
 bif Nat.beq m.length n then some m else none
def H.read (h:H) (i k n:Nat):Option (List Value):=
 match h.cells i with
 |some cs=>takeN n (cs.drop k)
 |none=>none
def oneCell:Value→Bool
 | .agg _=>false
 | .tuple _=>false
 |_=>true
def putAt:List Value→Nat→List Value→Option (List Value)
 |cs,0,vs=>bif Nat.ble vs.length cs.length then some (vs++cs.drop vs.length) else none
 |c::cs,k+1,vs=>match putAt cs k vs with|some r=>some (c::r)|none=>none
 |[],_+1,_=>none
def H.write (G:Nat) (h:H) (i k:Nat) (vs:List Value):Option H:=
 bif Nat.ble G i&&vs.all oneCell then
  match h.cells i with
  |some cs=>match putAt cs k vs with|some cs'=>some (h.put i (some (.cells cs')))|none=>none
  |none=>none
 else none
def H.loadA (P:Program) (h:H) (t:TypeId) (i k:Nat):Option Value:=
 match isAggA P t,sizeA P t with
 |some true,some n=>(h.read i k n).map fun l=> .agg l.toArray
 |some false,_=>match h.read i k 1 with|some [v]=>some v|_=>none
 |_,_=>none
def partA (P:Program) (t:TypeId) (cs:List Value) (off:Nat):Option Value:=
 match isAggA P t,sizeA P t with
 |some true,some n=>(takeN n (cs.drop off)).map fun l=> .agg l.toArray
 |some false,_=>cs[off]?
 |_,_=>none
def intA:Value→Option Int
 | .int _ n=>some n
 |_=>none
def boundA (x:Value) (y:Nat):Option Nat:=
 match x with
 | .int _ i=>bif decide (0≤i)&&decide (i≤y) then some i.toNat else none
 |_=>none
def boundsA (len cap:Nat) (lo hi mx:Option (Option Value)):Option (Nat×Nat×Nat):=
 match (match mx with|some (some v)=>boundA v cap|some none=>none|none=>some cap) with
 |none=>none
 |some m=>
  match (match hi,mx with|some (some v),_=>boundA v m|some none,_=>none|none,none=>some len|none,some _=>none) with
  |none=>none
  |some h=>
   match (match lo with|some (some v)=>boundA v h|some none=>none|none=>some 0) with
   |none=>none
   |some l=>some (l,h,m)
def sliceA (P:Program) (t:TypeId) (x:Value) (lo hi mx:Option (Option Value)):Option Value:=
 match P.underlying t,x with
 |some (.array n elem),.pointer (some ⟨i,k,none⟩)=>
  match boundsA n n lo hi mx,sizeA P elem with
  |some (l,h,m),some size=>some (.slice (some ⟨i,bif Nat.beq m l then k else k+l*size,none⟩) (h-l) (exCap (m-l)))
  |_,_=>none
 |some (.slice elem),.slice (some ⟨i,k,none⟩) len c=>
  match boundsA len (capLo c) lo hi mx,sizeA P elem with
  |some (l,h,m),some size=>
   bif capEx c||mx.isSome then some (.slice (some ⟨i,bif Nat.beq m l then k else k+l*size,none⟩) (h-l) (exCap (m-l)))
   else bif (Nat.beq l 0||Nat.blt l m)&&Nat.beq size (capSize c) then some (.slice (some ⟨i,k+l*size,none⟩) (h-l) (loCap (m-l) size))
   else none
  |_,_=>none
 |some (.slice elem),.slice none len c=>
  match boundsA len c lo hi mx,sizeA P elem with
  |some (l,h,m),some _=>some (.slice none (h-l) (m-l))
  |_,_=>none
 |_,_=>none
def allocA (P:Program) (id:Nat) (elem:TypeId):Option (Value×AObj):=
 match zeroA P elem with
 |some z=>some (.pointer (some ⟨id,0,none⟩),.cells z.cells.toList)
 |none=>none
def boxA (G:Nat) (tm:TV) (id:Nat) (x:Operand):Option (Value×AObj):=
 match aeval G tm x with
 |some v=>some (.pointer (some ⟨id,0,none⟩),.cells v.cells.toList)
 |none=>none
def fillA (size n:Nat) (z:Value) (l:List (Nat×Value)):Option (Array Value):=
 bif Nat.ble n 16777216&&Nat.blt 0 size&&Nat.beq z.cells.size size then Instr.fill (fun i=>some (i*size,size)) ((Array.range n).map (z.cells[· %z.cells.size]!)) l else none
def buildSliceA (P:Program) (G:Nat) (tm:TV) (id:Nat) (t:TypeId) (len:Nat) (parts:Array (Nat×Operand)):Option (Value×AObj):=
 match P.underlying t,aevalL G tm (parts.toList.map (·.2)) with
 |some (.slice elem),some vs=>
  match sizeA P elem,zeroA P elem with
  |some size,some z=>match fillA size (len*size) z ((parts.toList.map (·.1)).zip vs) with
   |some cells=>some (.slice (some ⟨id,0,none⟩) len (exCap len),.cells cells.toList)
   |none=>none
  |_,_=>none
 |_,_=>none
def makeMapA (P:Program) (G:Nat) (tm:TV) (id:Nat) (t:TypeId) (r:Option Operand):Option (Value×AObj):=
 match r with
 |none=>some (.map (some id),.map [] 0)
 |some r=>match P.underlying t,aeval G tm r with
  |some (.map _ _),some (.int _ _)=>some (.map (some id),.map [] 0)
  |_,_=>none
def makeRow (id:Nat) (l c size:Nat) (z:Value):Option (Value×AObj):=
 bif Nat.beq z.cells.size size&&Nat.blt 0 size then
  some (.slice (some ⟨id,0,none⟩) l (exCap c),.cells ((List.range (c*size)).map fun i=>z.cells[i%z.cells.size]!))
 else none
def makeSliceA (P:Program) (G:Nat) (tm:TV) (id:Nat) (t:TypeId) (l c:Operand):Option (Value×AObj):=
 match P.underlying t,aeval G tm l,aeval G tm c with
 |some (.slice elem),some (.int _ l),some (.int _ c)=>
  match sizeA P elem,zeroA P elem with
  |some size,some z=>
   bif decide (0≤l)&&decide (l≤c)&&decide (c≤1048576)&&Nat.ble ((P.info? elem).elim 0 (·.bytes)) 1048576 then makeRow id l.toNat c.toNat size z else none
  |_,_=>none
 |_,_,_=>none
def aopA (P:Program) (G:Nat) (tm:TV) (id:Nat):Op→Option (Value×AObj)
 | .alloc elem=>allocA P id elem
 | .box _ x=>boxA G tm id x
 | .buildSlice t len parts=>buildSliceA P G tm id t len parts
 | .makeMap t r=>makeMapA P G tm id t r
 | .makeSlice t l c=>makeSliceA P G tm id t l c
 |_=>none
def pickN (G:Nat) (tm:TV) (c a b:Operand):Option Value:=
 match aeval G tm c with
 |some (.bool true)=>aeval G tm a
 |some (.bool false)=>aeval G tm b
 |_=>none
def placesN (P:Program):List Field→Option (List (Nat×Nat))
 |[]=>some []
 |f::r=>match sizeA P f.type,placesN P r with
  |some s,some l=>some ((f.offset,s)::l)
  |_,_=>none
def buildN (P:Program) (G:Nat) (tm:TV) (t:TypeId) (parts:Array (Nat×Operand)):Option Value:=
 match zeroA P t,P.underlying t,aevalL G tm (parts.toList.map (·.2)) with
 |some z,some (.struct fields),some vs=>
  match placesN P fields.toList with
  |some places=>(Instr.fill (fun i=>places[i]?) z.cells ((parts.toList.map (·.1)).zip vs)).map .agg
  |none=>none
 |some z,some (.array _ elem),some vs=>
  match sizeA P elem with
  |some size=>(Instr.fill (fun i=>some (i*size,size)) z.cells ((parts.toList.map (·.1)).zip vs)).map .agg
  |none=>none
 |_,_,_=>none
def loadN (P:Program) (G:Nat) (tm:TV) (h:H) (t:TypeId) (x:Operand):Option Value:=
 match aeval G tm x with
 |some (.pointer (some ⟨i,k,none⟩))=>h.loadA P t i k
 |_=>none
def nilCheckN (G:Nat) (tm:TV) (x:Operand):Option Value:=
 match aeval G tm x with
 |some (.pointer (some a))=>some (.pointer (some a))
 |some (.func (.func f) a b)=>some (.func (.func f) a b)
 |some (.iface t v)=>some (.iface t v)
 |_=>none
def eqNil (P:Program) (t:TypeId) (a b:Value):Bool:=
 match a,b with
 | .slice (some _) _ _,.slice none _ _| .slice none _ _,.slice (some _) _ _=>match P.underlying t with|some (.slice _)=>true|_=>false
 | .pointer (some _),.pointer none| .pointer none,.pointer (some _)=>match P.underlying t with|some (.pointer _)=>true|_=>false
 | .func (.func _) _ _,.nilFunc=>match P.underlying t with|some (.func _ _ _)=>true|_=>false
 | .map (some _),.map none=>match P.underlying t with|some (.map _ _)=>true|_=>false
 |_,_=>false
def afv:Option Value→Option Value
 |some v=>bif af 6 v then some v else none
 |none=>none
def intOp (op:BinOp) (k:IntKind) (a b:Int):Option Value:=
 match op with
 | .eql=>some (.bool (decide (a=b)))
 | .neq=>some (.bool (!decide (a=b)))
 | .lss=>some (.bool (decide (a<b)))
 | .leq=>some (.bool (decide (a≤b)))
 | .gtr=>some (.bool (decide (b<a)))
 | .geq=>some (.bool (decide (b≤a)))
 | .add=>some (.int k (k.wrap (a+b)))
 | .sub=>some (.int k (k.wrap (a-b)))
 |_=>none
def pureBin (P:Program) (op:BinOp) (t:TypeId) (x y:Operand) (a b:Value):Option Value:=
 bif af 6 a&&af 6 b then afv (pureRun P (do eqGuard op t x y a b;binOp op t a b))
 else match op with
  | .eql=>bif eqNil P t a b then some (.bool false) else none
  | .neq=>bif eqNil P t a b then some (.bool true) else none
  |_=>none
def binOpN (P:Program) (G:Nat) (tm:TV) (op:BinOp) (t:TypeId) (x y:Operand):Option Value:=
 match aeval G tm x,aeval G tm y with
 |some a,some b=>match a,b with
  | .int k m,.int k' n=>match (bif decide (k=k') then intOp op k m n else none) with
    |some v=>some v
    |none=>pureBin P op t x y a b
  |_,_=>pureBin P op t x y a b
 |_,_=>none
def unOpN (P:Program) (G:Nat) (tm:TV) (op:UnOp) (x:Operand):Option Value:=
 match aeval G tm x with
 |some a=>bif af 6 a then afv (pureRun P (Op.unary op a)) else none
 |none=>none
def byteOf:Value→Option UInt8
 | .int .u8 n=>some (UInt8.ofNat n.toNat)
 |_=>none
def bytesOf:List Value→Option (List UInt8)
 |[]=>some []
 |v::r=>match byteOf v,bytesOf r with
  |some b,some l=>some (b::l)
  |_,_=>none
def textN (P:Program) (h:H) (e:TypeId) (i k len:Nat):Option Value:=
 match P.underlying e,h.read i k len with
 |some (.int .u8),some l=>(bytesOf l).map fun l=> .string ⟨l.toArray⟩
 |_,_=>none
def convertN (P:Program) (G:Nat) (tm:TV) (h:H) (s d:TypeId) (x:Operand):Option Value:=
 match aeval G tm x with
 |some a=>
  bif af 6 a then afv (pureRun P (convert s d a))
  else match P.underlying s,P.underlying d,a with
   |some (.slice e),some .string,.slice (some ⟨i,k,none⟩) len _=>textN P h e i k len
   |some (.pointer t),some .unsafePointer,.pointer (some ⟨i,k,none⟩)=>match sizeA P t,h.cells i with
    |some n,some cs=>bif Nat.blt 0 n&&Nat.blt k cs.length then some a else none
    |_,_=>none
   |_,_,_=>none
 |none=>none
def makeInterfaceN (P:Program) (G:Nat) (tm:TV) (t:TypeId) (x:Operand):Option Value:=
 match P.underlying t,aeval G tm x with
 |some (.interface _),_=>none
 |some _,some v=>some (.iface t v)
 |_,_=>none
def makeFuncN (G:Nat) (tm:TV) (fn:Fn) (first captured:Array Operand):Option Value:=
 match fn,aevalL G tm first.toList,aevalL G tm captured.toList with
 | .func f,some a,some b=>some (.func (.func f) a.toArray b.toArray)
 |_,_,_=>none
def sliceN (P:Program) (G:Nat) (tm:TV) (t:TypeId) (x:Operand) (lo hi mx:Option Operand):Option Value:=
 match aeval G tm x with
 |some (.string s)=>match P.underlying t,mx with
  |some .string,none=>match boundsA s.size s.size (lo.map (aeval G tm)) (hi.map (aeval G tm)) none with
   |some (l,h,_)=>some (.string (s.extract l h))
   |none=>none
  |_,_=>none
 |some a=>sliceA P t a (lo.map (aeval G tm)) (hi.map (aeval G tm)) (mx.map (aeval G tm))
 |none=>none
def fieldAddrN (P:Program) (G:Nat) (tm:TV) (s:TypeId) (x:Operand) (f:Nat):Option Value:=
 match P.underlying s,aeval G tm x with
 |some (.struct fields),some (.pointer (some ⟨i,k,none⟩))=>match fields[f]? with
  |some f=>match sizeA P f.type with
   |some n=>bif Nat.blt 0 n then some (.pointer (some ⟨i,k+f.offset,none⟩)) else none
   |none=>none
  |none=>none
 |_,_=>none
def fieldN (P:Program) (G:Nat) (tm:TV) (s:TypeId) (x:Operand) (f:Nat):Option Value:=
 match P.underlying s,aeval G tm x with
 |some (.struct fields),some (.agg cs)=>match fields[f]? with
  |some f=>partA P f.type cs.toList f.offset
  |none=>none
 |_,_=>none
def placeN (P:Program) (elem:TypeId) (i k n:Nat) (j:Int):Option Value:=
 match sizeA P elem with
 |some size=>bif decide (0≤j)&&decide (j<n) then some (.pointer (some ⟨i,k+j.toNat*size,none⟩)) else none
 |none=>none
def indexAddrN (P:Program) (G:Nat) (tm:TV) (t:TypeId) (x ix:Operand):Option Value:=
 match P.underlying t,aeval G tm x,aeval G tm ix with
 |some (.array n elem),some (.pointer (some ⟨i,k,none⟩)),some (.int _ j)=>placeN P elem i k n j
 |some (.slice elem),some (.slice (some ⟨i,k,none⟩) n _),some (.int _ j)=>placeN P elem i k n j
 |_,_,_=>none
def indexN (P:Program) (G:Nat) (tm:TV) (t:TypeId) (x ix:Operand):Option Value:=
 match P.underlying t,aeval G tm x,aeval G tm ix with
 |some .string,some (.string s),some (.int _ j)=>bif decide (0≤j) then (match s.data.toList[j.toNat]? with|some b=>some (.int .u8 b.toNat)|none=>none) else none
 |some (.array n elem),some (.agg cs),some (.int _ j)=>match sizeA P elem with
  |some size=>bif decide (0≤j)&&decide (j<n) then partA P elem cs.toList (j.toNat*size) else none
  |none=>none
 |_,_,_=>none
def bare (es:List MapEntry):List MapEntry:=es.map fun e=>{e with val:=undef}
def findA (P:Program) (empty:Bool) (kt:TypeId) (k:Value) (es:List MapEntry):Option (Option Nat):=
 bif af 6 k&&es.all (fun e=>af 6 e.key) then
  match pureRun P (Instr.checkKey empty 10000 kt k),pureRun P (Instr.findKey kt k (bare es)) with
  |some _,some (some (i,_))=>some (some i)
  |some _,some none=>some none
  |_,_=>none
 else none
def entriesA (h:H):Value→Option (List MapEntry)
 | .map none=>some []
 | .map (some r)=>match h.hp.get r with|some (.map es _)=>some es|_=>none
 |_=>none
def lookupN (P:Program) (G:Nat) (tm:TV) (h:H) (t:TypeId) (x ix:Operand) (ok:Bool):Option Value:=
 match P.underlying t,aeval G tm x,aeval G tm ix with
 |some (.map kt et),some m,some k=>
  match entriesA h m with
  |none=>none
  |some es=>match findA P es.isEmpty kt k es with
   |some (some i)=>match es[i]? with
    |some e=>some (bif ok then .tuple #[e.val,.bool true] else e.val)
    |none=>none
   |some none=>match zeroA P et with
    |some z=>some (bif ok then .tuple #[z,.bool false] else z)
    |none=>none
   |none=>none
 |_,_,_=>none
def extractN (G:Nat) (tm:TV) (x:Operand) (i:Nat):Option Value:=
 match aeval G tm x with
 |some (.tuple vs)=>vs[i]?
 |_=>none
def entryN (G:Nat) (tm:TV) (h:H) (x:Operand):Option Value:=
 match aeval G tm x with
 |some (.pointer (some ⟨r,0,none⟩))=>match h.hp.get r with
  |some (.walk (some m) _ seen stepped)=>match seen.head?,h.hp.get m with
   |some stamp,some (.map es clock)=>bif Nat.beq clock stepped then
     (match es.find? (fun e=>Nat.beq e.born stamp) with|some e=>some (.tuple #[e.key,e.val])|none=>none) else none
   |_,_=>none
  |_=>none
 |_=>none
def lenN (P:Program) (G:Nat) (tm:TV) (h:H) (t:TypeId) (x:Operand):Option Value:=
 match P.underlying t,aeval G tm x with
 |some .string,some (.string s)=>some (.int .i64 s.size)
 |some (.slice _),some (.slice _ n _)=>some (.int .i64 n)
 |some (.array n _),some _=>some (.int .i64 n)
 |some (.map _ _),some (.map none)=>some (.int .i64 0)
 |some (.map _ _),some (.map (some r))=>match h.hp.get r with|some (.map es _)=>some (.int .i64 es.length)|_=>none
 |_,_=>none
def capN (P:Program) (G:Nat) (tm:TV) (t:TypeId) (x:Operand):Option Value:=
 match P.underlying t,aeval G tm x with
 |some (.slice _),some (.slice none _ n)=>some (.int .i64 n)
 |some (.slice _),some (.slice (some _) _ c)=>bif capEx c then some (.int .i64 (capLo c)) else none
 |_,_=>none
def minMaxN (P:Program) (G:Nat) (tm:TV) (mx:Bool) (ats:Array TypeId) (args:Array Operand):Option Value:=
 match aevalL G tm args.toList with
 |some vs=>bif vs.all (af 6) then afv (pureRun P (bif mx then Builtin.max_ ats 0 vs.toArray else Builtin.min_ ats 0 vs.toArray)) else none
 |none=>none
def builtinN (P:Program) (G:Nat) (tm:TV) (h:H) (b:Builtin) (args:Array Operand) (ats:Array TypeId):Option Value:=
 match b with
 | .len=>match args.toList,ats.toList with|[x],[t]=>lenN P G tm h t x|_,_=>none
 | .cap=>match args.toList,ats.toList with|[x],[t]=>capN P G tm t x|_,_=>none
 | .min=>minMaxN P G tm false ats args
 | .max=>minMaxN P G tm true ats args
 |_=>none
def callN (P:Program) (G:Nat) (tm:TV) (h:H) (c:Call):Option Value:=
 match c.callee with
 | .builtin b=>builtinN P G tm h b c.args c.argTypes
 |_=>none
def aopN (P:Program) (G:Nat) (tm:TV) (h:H):Op→Option Value
 | .move x=>aeval G tm x
 | .assign x=>aeval G tm x
 | .pick c a b=>pickN G tm c a b
 | .build t parts=>buildN P G tm t parts
 | .load t x=>loadN P G tm h t x
 | .nilCheck x=>nilCheckN G tm x
 | .binOp op t x y _=>binOpN P G tm op t x y
 | .unOp op _ x=>unOpN P G tm op x
 | .convert s d x=>convertN P G tm h s d x
 | .makeInterface t x=>makeInterfaceN P G tm t x
 | .makeFunc fn first captured=>makeFuncN G tm fn first captured
 | .slice t x lo hi mx=>sliceN P G tm t x lo hi mx
 | .fieldAddr s x f=>fieldAddrN P G tm s x f
 | .field s x f=>fieldN P G tm s x f
 | .indexAddr t x ix=>indexAddrN P G tm t x ix
 | .index t x ix=>indexN P G tm t x ix
 | .lookup t x ix ok=>lookupN P G tm h t x ix ok
 | .extract x i=>extractN G tm x i
 | .entry x=>entryN G tm h x
 | .call c=>callN P G tm h c
 |_=>none
def cellsOf (h:H) (size n:Nat):Value→Option (List Value)
 | .slice (some ⟨i,k,none⟩) _ _=>h.read i k (n*size)
 | .slice none _ _=>some []
 | .string s=>some ((s.data.toList.take n).map fun b=> .int .u8 b.toNat)
 |_=>none
def lenA:Value→Option Nat
 | .slice _ n _=>some n
 | .string s=>some s.size
 |_=>none
def growA (G:Nat) (h:H) (size i k sLen c n:Nat) (new:List Value):Option (Value×H):=
 match h.read i k (sLen*size) with
 |some old=>
  bif new.all oneCell&&(capEx c||(Nat.beq (capSize c) size&&Nat.ble G i)) then
   let h1:H:=bif capEx c then h else h.put i none
   some (.slice (some ⟨h.nx,0,none⟩) (sLen+n) (loCap (sLen+n) size),h1.new (.cells (old++new)))
  else none
 |none=>none
def appendTo (G:Nat) (h:H) (size n:Nat) (new:List Value) (base:Option Addr) (sLen c:Nat):Option (Value×H):=
 match base with
 |some ⟨i,k,none⟩=>
  bif Nat.ble (sLen+n) (capLo c) then
   match h.write G i (k+sLen*size) new with
   |some h'=>some (.slice base (sLen+n) c,h')
   |none=>none
  else growA G h size i k sLen c n new
 |none=>
  bif Nat.beq sLen 0&&Nat.beq c 0 then
   bif Nat.beq n 0 then some (.slice none 0 0,h)
   else some (.slice (some ⟨h.nx,0,none⟩) n (loCap n size),h.new (.cells new))
  else none
 |_=>none
def appendA (P:Program) (G:Nat) (h:H) (st xt:TypeId) (s x:Value):Option (Value×H):=
 match P.underlying st,P.underlying xt,s,lenA x with
 |some (.slice _),some (.int _),_,_=>none
 |some (.slice elem),some _,.slice base sLen c,some n=>
  match sizeA P elem,zeroA P elem with
  |some size,some z=>
   bif Nat.beq z.cells.size size&&Nat.blt 0 size&&Nat.ble (sLen+n) 1048576&&Nat.ble ((P.info? elem).elim 0 (·.bytes)) 1048576 then
    match cellsOf h size n x with
    |some new=>bif Nat.beq new.length (n*size) then appendTo G h size n new base sLen c else none
    |none=>none
   else none
  |_,_=>none
 |_,_,_,_=>none
inductive LR where
 |val (v:Value) (h:H)
 |enter (f:FuncId) (args:List Value)
 |round (l:Nat) (args:List Value)
 |defer (d:Deferred)
 |recover
def storeE (P:Program) (G:Nat) (tm:TV) (h:H) (t:TypeId) (a x:Operand):Option LR:=
 match aeval G tm a,aeval G tm x,sizeA P t with
 |some (.pointer (some ⟨i,k,none⟩)),some v,some n=>
  bif Nat.beq v.cells.size n then (match h.write G i k v.cells.toList with|some h'=>some (LR.val undef h')|none=>none) else none
 |_,_,_=>none
def convertE (P:Program) (G:Nat) (tm:TV) (h:H) (s d:TypeId) (x:Operand):Option LR:=
 match P.underlying s,P.underlying d,aeval G tm x with
 |some .string,some (.slice e),some (.string b)=>match P.underlying e with
  |some (.int .u8)=>bif Nat.ble b.size 1048576 then some (.val (.slice (some ⟨h.nx,0,none⟩) b.size (loCap b.size 1)) (h.new (.cells (b.data.toList.map fun c=> .int .u8 c.toNat)))) else none
  |_=>none
 |some (.slice _),some (.slice e),some (.slice (some ⟨i,k,none⟩) len c)=>match P.underlying e,h.cells i with
  |some (.int .u8),some cs=>bif Nat.beq s d&&Nat.ble G i then some (.val (.slice (some ⟨i,k,none⟩) len c) (h.put i (some (.cells cs)))) else none
  |_,_=>none
 |_,_,_=>none
def mapA (G:Nat) (h:H):Value→Option (Nat×List MapEntry×Nat)
 | .map (some r)=>match h.hp.get r with
   |some (.map es clock)=>bif Nat.ble G r then some (r,es,clock) else none
   |_=>none
 |_=>none
def mapUpdateE (P:Program) (G:Nat) (tm:TV) (h:H) (t:TypeId) (m k x:Operand):Option LR:=
 match P.underlying t,(aeval G tm m).bind (mapA G h),aeval G tm k,aeval G tm x with
 |some (.map kt _),some (r,es,clock),some k,some x=>
  match findA P false kt k es with
  |some (some i)=>match es[i]? with
   |some e=>bif Instr.sameBits 10000 e.key k then some (.val undef (h.put r (some (.map (es.set i {e with key:=k,val:=x}) clock)))) else none
   |none=>none
  |some none=>some (.val undef (h.put r (some (.map (es++[{key:=k,val:=x,born:=clock}]) (clock+1)))))
  |none=>none
 |_,_,_,_=>none
def mapEntryE (P:Program) (G:Nat) (tm:TV) (h:H) (t:TypeId) (m k:Operand):Option LR:=
 match P.underlying t,(aeval G tm m).bind (mapA G h),aeval G tm k with
 |some (.map kt et),some (r,es,clock),some k=>
  match findA P false kt k es,zeroA P et with
  |some (some i),_=>match es[i]? with
   |some e=>bif Instr.sameBits 10000 e.key k then
     some (.val (.tuple #[e.val,.int .i64 e.born]) (h.put r (some (.map (es.set i {e with key:=k}) clock)))) else none
   |none=>none
  |some none,some z=>some (.val (.tuple #[z,.int .i64 clock]) (h.put r (some (.map (es++[{key:=k,val:=z,born:=clock}]) (clock+1)))))
  |_,_=>none
 |_,_,_=>none
def entryStoreE (G:Nat) (tm:TV) (h:H) (m s x:Operand):Option LR:=
 match (aeval G tm m).bind (mapA G h),aeval G tm s,aeval G tm x with
 |some (r,es,clock),some (.int _ born),some x=>
  match es.findIdx? (fun e=>(e.born:Int)==born) with
  |some i=>match es[i]? with
   |some e=>some (.val undef (h.put r (some (.map (es.set i {e with val:=x}) clock))))
   |none=>none
  |none=>none
 |_,_,_=>none
def rangeE (P:Program) (G:Nat) (tm:TV) (h:H) (t:TypeId) (x:Operand):Option LR:=
 match P.underlying t,aeval G tm x with
 |some .string,some (.string s)=>some (.val (.pointer (some ⟨h.nx,0,none⟩)) (h.new (.text s 0)))
 |some (.map _ _),some (.map none)=>some (.val (.pointer (some ⟨h.nx,0,none⟩)) (h.new (.walk none 0 [] 0)))
 |some (.map _ _),some (.map (some m))=>match h.hp.get m with
  |some (.map _ clock)=>some (.val (.pointer (some ⟨h.nx,0,none⟩)) (h.new (.walk (some m) clock [] clock)))
  |_=>none
 |_,_=>none
def deferE (G:Nat) (rd:Option Nat) (tm:TV) (c:Call):Option LR:=
 match rd,c.callee with
 |none,.value f=>match aeval G tm f,aevalL G tm c.args.toList with
  |some (.func (.func g) first captured),some args=>some (.defer {target:= .fn (.func g) captured,args:=first++args.toArray})
  |_,_=>none
 |_,_=>none
def externE (P:Program) (h:H) (g:FuncId) (args:List Value):Option LR:=
 bif args.all (af 6) then (match pureRun P (callFunc g args.toArray) with|some (.value v)=>bif af 6 v then some (.val v h) else none|_=>none) else none
def sliceRow (P:Program) (t:TypeId):Option TypeId:=
 match P.info? t with
 |some i=>match i.desc with| .slice e=>some e|_=>none
 |none=>none
def swapperA (P:Program) (e:TypeId) (p:Option Addr) (n c:Nat):Option Value:=
 match P.info? e,pureRun P (Extern.Rtype.kind e) with
 |some ie,some ke=>match P.funcs.findIdx? (·.name== "internal/reflectlite" ++ ".Swapper$" ++toString (Lib.swapperK n ie ke)) with
  |some f=>some (.func (.func f) #[] (bif Nat.ble (Lib.swapperK n ie ke) 2 then #[] else #[.slice p n c,typeHandle P e]))
  |none=>none
 |_,_=>none
def reflA (P:Program) (h:H) (fn:Func) (args:List Value):Option LR:=
 match args with
 |[.iface t (.slice p n c)]=>
  match sliceRow P t with
  |some e=>
   bif fn.name== "internal/reflectlite.ValueOf" then some (.val (.agg #[typeHandle P t,.pointer (some ⟨h.nx,0,none⟩),.int .u64 151]) (h.new (.cells [.slice p n c])))
   else bif fn.name== "internal/reflectlite.Swapper" then (match swapperA P e p n c with|some v=>some (.val v h)|none=>none)
   else none
  |none=>none
 |[.agg a]=>
  match a.toList with
  |[.pointer (some ⟨hb,t,none⟩),.pointer (some ⟨i,k,none⟩),.int .u64 m]=>
   bif fn.name== "(internal/reflectlite.Value).Len" &&(Nat.beq hb P.globals.size&&(m==151&& !P.packed t)) then
    match sliceRow P t,h.read i k 1 with
    |some _,some [.slice _ n _]=>some (.val (.int .i64 (n:Nat)) h)
    |_,_=>none
   else none
  |_=>none
 |_=>none
inductive SyncK where
 |mark (m:Addr→Mark)
 |load (q:IntKind)
 |store (q:IntKind)
 |add (q:IntKind)
 |cas (q:IntKind)
def syncOf (n:String):Option SyncK:=
 bif n== "internal/race.Acquire" then some (.mark .acquire) else
 bif n== "internal/race.ReleaseMerge" then some (.mark .releaseMerge) else
 bif n== "internal/race.Release" then some (.mark .release) else
 bif n== "internal/race.Read" then some (.mark .read) else
 bif n== "internal/race.Write" then some (.mark .write) else
 bif n== "sync/atomic.CompareAndSwapInt32" then some (.cas .i32) else
 bif n== "sync/atomic.AddInt32" then some (.add .i32) else
 bif n== "sync/atomic.LoadInt32" then some (.load .i32) else
 bif n== "sync/atomic.StoreInt32" then some (.store .i32) else
 bif n== "sync/atomic.LoadUint32" then some (.load .u32) else
 bif n== "sync/atomic.StoreUint32" then some (.store .u32) else
 bif n== "sync/atomic.CompareAndSwapUint32" then some (.cas .u32) else
 bif n== "sync/atomic.LoadUint64" then some (.load .u64) else
 bif n== "sync/atomic.AddUint64" then some (.add .u64) else
 bif n== "sync/atomic.LoadInt64" then some (.load .i64) else
 bif n== "sync/atomic.AddInt64" then some (.add .i64) else
 none
def markDo (h:H) (args:List Value):Option LR:=
 match args with
 |[.pointer (some ⟨_,_,none⟩)]=>some (.val (.tuple #[]) h)
 |_=>none
def loadDo (h:H) (q:IntKind) (args:List Value):Option LR:=
 match args with
 |[.pointer (some ⟨i,k,none⟩)]=>match h.read i k 1 with
  |some [.int q' x]=>bif decide (q=q') then some (.val (.int q x) h) else none
  |_=>none
 |_=>none
def storeDo (G:Nat) (h:H) (q:IntKind) (args:List Value):Option LR:=
 match args with
 |[.pointer (some ⟨i,k,none⟩),.int q' y]=>bif decide (q=q') then
    (match h.read i k 1,h.write G i k [.int q y] with
      |some [_],some h'=>some (.val (.tuple #[]) h')
      |_,_=>none)
  else none
 |_=>none
def addDo (G:Nat) (h:H) (q:IntKind) (args:List Value):Option LR:=
 match args with
 |[.pointer (some ⟨i,k,none⟩),.int q' y]=>bif decide (q=q') then
    (match h.read i k 1 with
      |some [.int q2 x]=>bif decide (q=q2) then (match h.write G i k [.int q (q.wrap (x+y))] with|some h'=>some (.val (.int q (q.wrap (x+y))) h')|none=>none) else none
      |_=>none)
  else none
 |_=>none
def casDo (G:Nat) (h:H) (q:IntKind) (args:List Value):Option LR:=
 match args with
 |[.pointer (some ⟨i,k,none⟩),.int q1 x,.int q2 y]=>bif decide (q=q1)&&decide (q=q2) then
    (match h.read i k 1,h.write G i k [.int q y] with
      |some [.int q3 z],some h'=>bif decide (q=q3) then (bif decide (z=x) then some (.val (.bool true) h') else some (.val (.bool false) h)) else none
      |_,_=>none)
  else none
 |_=>none
def syncDo (G:Nat) (h:H) (k:SyncK) (args:List Value):Option LR:=
 match k with
 | .mark _=>markDo h args
 | .load q=>loadDo h q args
 | .store q=>storeDo G h q args
 | .add q=>addDo G h q args
 | .cas q=>casDo G h q args
def syncA (G:Nat) (h:H) (n:String) (args:List Value):Option LR:=
 match syncOf n with
 |some k=>syncDo G h k args
 |none=>none
def entryA (P:Program) (G:Nat) (h:H) (fn:Func) (args:List Value):Option LR:=
 match reflA P h fn args with
 |some r=>some r
 |none=>syncA G h fn.name args
def funcE (P:Program) (G:Nat) (h:H) (g:FuncId) (args:List Value):Option LR:=
 match P.funcs[g]? with
 |some fn=>
  match fn.body with
  |some _=>some (.enter g args)
  |none=>match externE P h g args with
   |some r=>some r
   |none=>bif Nat.blt P.globals.size G&&fn.origin== "" then entryA P G h fn args else none
 |none=>none
def callE (P:Program) (G:Nat) (tm:TV) (h:H) (f:Operand) (args:Array Operand):Option LR:=
 match aeval G tm f,aevalL G tm args.toList with
 |some (.func fn first captured),some args=>match fn with
  | .func g=>funcE P G h g (first.toList++args++captured.toList)
  | .yield l=>bif first.isEmpty&&captured.isEmpty then some (.round l args) else none
  |_=>none
 |_,_=>none
def copyE (P:Program) (G:Nat) (h:H) (t:TypeId) (d x:Value):Option LR:=
 match P.underlying t,d,lenA x with
 |some (.slice elem),.slice base dLen _,some n=>match sizeA P elem with
  |some size=>match cellsOf h size (min n dLen) x,base with
   |some new,some ⟨i,k,none⟩=>match h.write G i k new with|some h'=>some (LR.val (.int .i64 (min n dLen:Nat)) h')|none=>none
   |some [],none=>some (.val (.int .i64 (min n dLen:Nat)) h)
   |_,_=>none
  |none=>none
 |_,_,_=>none
def deleteE (P:Program) (G:Nat) (h:H) (t:TypeId) (m k:Value):Option LR:=
 match P.underlying t,mapA G h m with
 |some (.map kt _),some (r,es,clock)=>
  match findA P es.isEmpty kt k es with
  |some (some i)=>some (.val (.tuple #[]) (h.put r (some (.map (es.eraseIdx i) clock))))
  |some none=>some (.val (.tuple #[]) (h.put r (some (.map es clock))))
  |none=>none
 |_,_=>none
def clearE (P:Program) (G:Nat) (h:H) (t:TypeId) (m:Value):Option LR:=
 match P.underlying t,mapA G h m with
 |some (.map _ _),some (r,_,clock)=>some (.val (.tuple #[]) (h.put r (some (.map [] clock))))
 |_,_=>none
def builtinE (P:Program) (G:Nat) (rd:Option Nat) (tm:TV) (h:H) (b:Builtin) (args:Array Operand) (ats:Array TypeId):Option LR:=
 match b,aevalL G tm args.toList,ats.toList with
 | .append,some [s,x],[t,u]=>match appendA P G h t u s x with|some (v,h')=>some (.val v h')|none=>none
 | .copy,some [d,x],t::_=>copyE P G h t d x
 | .delete,some [m,k],t::_=>deleteE P G h t m k
 | .clear,some [m],t::_=>clearE P G h t m
 | .recover,some [],_=>match rd with|none=>some .recover|some _=>none
 |_,_,_=>none
def anyCallE (P:Program) (G:Nat) (rd:Option Nat) (tm:TV) (h:H) (c:Call):Option LR:=
 match c.callee with
 | .value f=>callE P G tm h f c.args
 | .builtin b=>builtinE P G rd tm h b c.args c.argTypes
 |_=>none
def aopE (P:Program) (G:Nat) (rd:Option Nat) (tm:TV) (h:H):Op→Option LR
 | .store t a x=>storeE P G tm h t a x
 | .convert s d x=>convertE P G tm h s d x
 | .mapUpdate t m k x=>mapUpdateE P G tm h t m k x
 | .insert t m k x=>mapUpdateE P G tm h t m k x
 | .mapEntry t m k=>mapEntryE P G tm h t m k
 | .entryStore _ m s x=>entryStoreE G tm h m s x
 | .range t x=>rangeE P G tm h t x
 | .defer c=>deferE G rd tm c
 | .call c=>anyCallE P G rd tm h c
 |_=>none
def nextText (h:H) (r:Nat) (s:ByteArray) (pos:Nat):List (Value×H):=
 bif Nat.blt pos s.size then
  [(.tuple #[.bool true,.int .i64 pos,.int .i32 (Utf8.decode s pos).1],h.put r (some (.text s (pos+(Utf8.decode s pos).2))))]
 else [(.tuple #[.bool false],h)]
def leftOf (seen:List Nat) (es:List MapEntry):List MapEntry:=es.filter fun e=> !(seen.any fun b=>Nat.beq b e.born)
def nextMap (G:Nat) (h:H) (r m since:Nat) (seen:List Nat) (last:Nat):Option (List (Value×H)):=
 match h.hp.get m with
 |some (.map es clock)=>
  bif (!seen.isEmpty&& !es.isEmpty&&es.all (fun e=>Nat.ble last e.born))|| !(Nat.ble G r) then none else
  bif (leftOf seen es).all (fun e=>Nat.blt e.born since) then
   bif (leftOf seen es).isEmpty then some [(.tuple #[.bool false],h)]
   else some ((leftOf seen es).map fun e=>(.tuple #[.bool true,e.key,e.val],h.put r (some (.walk (some m) since (e.born::seen) clock))))
  else none
 |_=>none
def nextX (G:Nat) (tm:TV) (h:H) (x:Operand) (str:Bool):Option (List (Value×H)):=
 match aeval G tm x with
 |some (.pointer (some ⟨r,0,none⟩))=>match h.hp.get r,str with
  |some (.text s pos),true=>bif Nat.ble G r then some (nextText h r s pos) else none
  |some (.walk none _ _ _),false=>some [(.tuple #[.bool false],h)]
  |some (.walk (some m) since seen last),false=>nextMap G h r m since seen last
  |_,_=>none
 |_=>none
inductive Ex where
 |normal
 |exit (id:Nat)
 |ret
inductive Task where
 |code (c:Code) (rd:Option Nat) (st:St)
 |call (f:FuncId) (args:List Value) (h:H)
inductive Out where
 |code (e:Ex) (st:St)
 |call (v:Value) (h:H)
def lbind {α β:Type} (f:α→Option (List β)):List α→Option (List β)
 |[]=>some []
 |a::l=>match f a with
  |none=>none
  |some x=>match l with
   |[]=>some x
   |_::_=>match lbind f l with
    |none=>none
    |some y=>some (x++y)
def obind {α β:Type} (o:Option (List α)) (f:α→Option (List β)):Option (List β):=
 match o with
 |none=>none
 |some l=>lbind f l
inductive Cls where
 |reads|makes|acts|next
def cls (P:Program):Op→Cls
 | .move _=> .reads
 | .assign _=> .reads
 | .pick .. => .reads
 | .build .. => .reads
 | .load .. => .reads
 | .nilCheck _=> .reads
 | .binOp .. => .reads
 | .unOp .. => .reads
 | .makeInterface .. => .reads
 | .makeFunc .. => .reads
 | .slice .. => .reads
 | .fieldAddr .. => .reads
 | .field .. => .reads
 | .indexAddr .. => .reads
 | .index .. => .reads
 | .lookup .. => .reads
 | .extract .. => .reads
 | .entry _=> .reads
 | .convert s d _=>match P.underlying s,P.underlying d with
   |some .string,some (.slice _)=> .acts
   |some (.slice _),some (.slice _)=> .acts
   |_,_=> .reads
 | .call c=>match c.callee with
   | .builtin b=>match b with
     | .len=> .reads
     | .cap=> .reads
     | .min=> .reads
     | .max=> .reads
     |_=> .acts
   |_=> .acts
 | .alloc _=> .makes
 | .box .. => .makes
 | .buildSlice .. => .makes
 | .makeMap .. => .makes
 | .makeSlice .. => .makes
 | .next .. => .next
 |_=> .acts
structure V3 where
 v:Value
 df:List Deferred
 h:H
def putV (st:St) (dst:Option Tmp) (r:V3):St:={tm:=tput st.sz st.tm dst r.v,sz:=st.sz,df:=r.df,h:=r.h}
def bindRound (sz:Nat):List (Tmp×Value)→TV→TV
 |[],t=>t
 |(p,v)::r,t=>bindRound sz r (tput sz t (some p) v)
def endRoundA (df:List Deferred) (l:Nat) (e:Ex) (s2:St):Option (List V3):=
 match s2.h.hp.get l with
 |some (.round _ _ tm2 sz2 ps2 as2 bd2)=>match e with
  | .normal=>some [⟨.bool true,df,s2.h.put l (some (.round .ready none tm2 sz2 ps2 as2 bd2))⟩]
  | .exit id=>some [⟨.bool false,df,s2.h.put l (some (.round .done (some (.exit id)) tm2 sz2 ps2 as2 bd2))⟩]
  | .ret=>some [⟨.bool false,df,s2.h.put l (some (.round .done (some .ret) tm2 sz2 ps2 as2 bd2))⟩]
 |_=>none
def endBody (df:List Deferred) (l:Nat):Out→Option (List V3)
 | .code e s2=>endRoundA df l e s2
 | .call _ _=>none
def bodyRound (ih:Task→Option (List Out)) (df:List Deferred) (l:Nat) (body:Code):Out→Option (List V3)
 | .code .normal s1=>match s1.h.hp.get l with
   |some (.round .ready pend tm1 sz1 ps1 as1 bd1)=>
    obind (ih (.code body (some l) {tm:=s1.tm,sz:=s1.sz,df:=s1.df,h:=s1.h.put l (some (.round .busy pend tm1 sz1 ps1 as1 bd1))})) (endBody df l)
   |_=>none
 |_=>none
def roundA (G:Nat) (ih:Task→Option (List Out)) (h:H) (df:List Deferred) (l:Nat) (args:List Value):Option (List V3):=
 match h.hp.get l with
 |some (.round _ _ tm sz params assign body)=>
  bif Nat.beq params.size args.length&&Nat.ble G l then
   obind (ih (.code assign (some l) {tm:=bindRound sz (params.toList.zip args) tm,sz:=sz,df:=[],h:=h})) (bodyRound ih df l body)
  else none
 |_=>none
def callV (df:List Deferred):Out→Option (List V3)
 | .call v h=>some [⟨v,df,h⟩]
 | .code _ _=>none
def runLR (G:Nat) (ih:Task→Option (List Out)) (h:H) (df:List Deferred):LR→Option (List V3)
 | .val v h1=>some [⟨v,df,h1⟩]
 | .enter f args=>obind (ih (.call f args h)) (callV df)
 | .defer d=>some [⟨undef,d::df,h⟩]
 | .recover=>some [⟨.nilIface,df,h⟩]
 | .round l args=>roundA G ih h df l args
def runOpV (P:Program) (G:Nat) (ih:Task→Option (List Out)) (rd:Option Nat) (op:Op) (tm:TV) (df:List Deferred) (h:H):Option (List V3):=
 match cls P op with
 | .reads=>match aopN P G tm h op with
   |some v=>some [⟨v,df,h⟩]
   |none=>none
 | .makes=>match aopA P G tm h.nx op with
   |some (v,b)=>some [⟨v,df,h.new b⟩]
   |none=>none
 | .acts=>match aopE P G rd tm h op with
   |some r=>runLR G ih h df r
   |none=>none
 | .next=>match op with
   | .next x str=>match nextX G tm h x str with
     |some l=>some (l.map fun p=>⟨p.1,df,p.2⟩)
     |none=>none
   |_=>none
def runOp (P:Program) (G:Nat) (ih:Task→Option (List Out)) (rd:Option Nat) (o:Oper) (st:St):Option (List St):=
 match runOpV P G ih rd o.op st.tm st.df st.h with
 |some l=>some (l.map (putV st o.dst))
 |none=>none
def wantedA (ops:Array Oper) (tm:TV) (o:Oper):Option Bool:=
 match o.guard with
 |none=>some true
 |some (j,want)=>match ((ops[j]?).bind (·.dst)).bind tm.get with
  |some (.bool b)=>some (b==want)
  |some (.complex _ _ _)=>none
  |some _=>some false
  |none=>none
def runOps (P:Program) (G:Nat) (ih:Task→Option (List Out)) (rd:Option Nat) (ops:Array Oper):List Oper→St→Option (List St)
 |[],st=>some [st]
 |o::rest,st=>
  match wantedA ops st.tm o with
  |none=>none
  |some false=>runOps P G ih rd ops rest (putV st o.dst ⟨undef,st.df,st.h⟩)
  |some true=>obind (runOp P G ih rd o st) (runOps P G ih rd ops rest)
inductive RK where
 |skip
 |reads
 |makes (id:Nat) (o:AObj)
 |acts (df:List Deferred) (h:H)
structure Rec where
 i:Nat
 o:Oper
 tm:TV
 k:RK
 v:Value
def withA (B:Nat) (h:H):List (Nat×Nat×AObj)→H
 |[]=>h
 |(k,id,o)::r=>
  let h1:=withA B h r
  bif Nat.testBit B k then (match h.hp.get id with|none=>{hp:=h1.hp.set id (some o),nx:=h1.nx,mw:=h1.mw} |some _=>h1) else h1
def allEq (v:Value):Option Value→Bool
 |some w=>veq 8 v w
 |none=>false
def tmpsOf:List Operand→List Tmp
 |[]=>[]
 | .tmp t::r=>t::tmpsOf r
 |_::r=>tmpsOf r
def namesA (ops:Array Oper) (o:Oper):List Tmp:=
 o.dst.toList++(tmpsOf o.op.operands.toList++(match o.guard with
  |none=>[]
  |some (j,_)=>match ops[j]? with
   |some g=>g.dst.toList
   |none=>[]))
def bound (Bs:Array Nat) (i j:Nat):Bool:=
 Nat.beq i j||(bif Nat.blt i j then Nat.testBit (Bs.getD j 0) i else Nat.testBit (Bs.getD i 0) j)
def namesOk (ops:Array Oper) (Bs:Array Nat):List Oper→Nat→Bool
 |[],_=>true
 |o::r,j=>(namesA ops o).all (fun t=>writersOk Bs t j ops.toList 0)&&namesOk ops Bs r (j+1)
where
 writersOk (Bs:Array Nat) (t:Tmp) (j:Nat):List Oper→Nat→Bool
  |[],_=>true
  |o::r,i=>(match o.dst with|some d=> !(Nat.beq d t)||bound Bs i j|none=>true)&&writersOk Bs t j r (i+1)
def edgesOk:List Oper→Nat→Bool
 |[],_=>true
 |o::r,i=>o.after.toList.all (fun e=> !Region.binds .any e||Nat.blt e.on i)&&edgesOk r (i+1)
def guardOk (B:Nat) (o:Oper):Bool:=
 match o.guard with
 |none=>true
 |some (j,_)=>Nat.testBit B j
structure Dr where
 tm:TV
 df:List Deferred
 h:H
 as:List (Nat×Nat×AObj)
 es:List Nat
 rs:List Rec
def noHeap:Op→Bool
 | .move _=>true
 | .assign _=>true
 | .pick .. =>true
 | .build .. =>true
 | .nilCheck _=>true
 | .binOp .. =>true
 | .unOp .. =>true
 | .makeInterface .. =>true
 | .makeFunc .. =>true
 | .slice .. =>true
 | .fieldAddr .. =>true
 | .field .. =>true
 | .indexAddr .. =>true
 | .index .. =>true
 | .extract .. =>true
 |_=>false
def isStore:Op→Bool
 | .store .. =>true
 |_=>false
def keepsAll (nx0:Nat) (h h1:H):Nat→Bool
 |0=>true
 |k+1=>(match h.hp.get (nx0+k) with|none=>true|some _=>(h1.hp.get (nx0+k)).isSome)&&keepsAll nx0 h h1 k
def drActs (n nx0 sz i:Nat) (o:Oper) (h0:H) (d:Dr):Option (List V3)→Option Dr
 |some [r]=>
  bif isStore o.op||keepsAll nx0 h0 r.h n then
   some {tm:=tput sz d.tm o.dst r.v,df:=r.df,h:=r.h,as:=d.as,es:=i::d.es,rs:=⟨i,o,d.tm,.acts r.df r.h,r.v⟩::d.rs}
  else none
 |_=>none
def drStep (P:Program) (G:Nat) (ih:Task→Option (List Out)) (rd:Option Nat) (sz:Nat) (ops:Array Oper) (Bs:Array Nat) (nx0:Nat) (i:Nat) (o:Oper) (d:Dr):Option Dr:=
 bif guardOk (Bs.getD i 0) o then
  match wantedA ops d.tm o with
  |none=>none
  |some false=>some {tm:=tput sz d.tm o.dst undef,df:=d.df,h:=d.h,as:=d.as,es:=d.es,rs:=⟨i,o,d.tm,.skip,undef⟩::d.rs}
  |some true=>
   match cls P o.op with
   | .reads=>match aopN P G d.tm (withA (Bs.getD i 0) d.h d.as) o.op with
     |some v=>some {tm:=tput sz d.tm o.dst v,df:=d.df,h:=d.h,as:=d.as,es:=d.es,rs:=⟨i,o,d.tm,.reads,v⟩::d.rs}
     |none=>none
   | .makes=>match aopA P G d.tm (nx0+i) o.op with
     |some (v,b)=>some {tm:=tput sz d.tm o.dst v,df:=d.df,h:=d.h,as:=(i,nx0+i,b)::d.as,es:=d.es,rs:=⟨i,o,d.tm,.makes (nx0+i) b,v⟩::d.rs}
     |none=>none
   |_=>bif d.es.all (fun e=>Nat.testBit (Bs.getD i 0) e) then
     drActs ops.size nx0 sz i o (withA (Bs.getD i 0) d.h d.as) d (runOpV P G ih rd o.op d.tm d.df (withA (Bs.getD i 0) d.h d.as))
    else none
 else none
def drOps (P:Program) (G:Nat) (ih:Task→Option (List Out)) (rd:Option Nat) (sz:Nat) (ops:Array Oper) (Bs:Array Nat) (nx0:Nat):List Oper→Nat→Dr→Option Dr
 |[],_,d=>some d
 |o::rest,i,d=>match drStep P G ih rd sz ops Bs nx0 i o d with
  |some d'=>drOps P G ih rd sz ops Bs nx0 rest (i+1) d'
  |none=>none
structure Stage where
 i:Nat
 df:List Deferred
 h:H
def stagesOf:List Rec→List Stage→List Stage
 |[],acc=>acc
 |r::rs,acc=>match r.k with
  | .acts df h=>stagesOf rs (⟨r.i,df,h⟩::acc)
  |_=>stagesOf rs acc
def stageOk (P:Program) (G:Nat) (B:Nat) (h:H) (as:List (Nat×Nat×AObj)) (r:Rec) (rest:List Stage):Bool:=
 rest.any (fun e=>Nat.testBit B e.i)||allEq r.v (aopN P G r.tm (withA B h as) r.o.op)
def walkOk (P:Program) (G:Nat) (Bs:Array Nat) (B:Nat) (as:List (Nat×Nat×AObj)) (r:Rec):List Stage→H→Bool
 |[],h=>stageOk P G B h as r []
 |e::rest,h=>stageOk P G B h as r (e::rest)&&(Nat.testBit (Bs.getD e.i 0) r.i||walkOk P G Bs B as r rest e.h)
def recsOk (P:Program) (G:Nat) (Bs:Array Nat) (as:List (Nat×Nat×AObj)) (st:List Stage) (h0:H):List Rec→Bool
 |[]=>true
 |r::rs=>(match r.k with| .reads=>noHeap r.o.op||walkOk P G Bs (Bs.getD r.i 0) as r st h0|_=>true)&&recsOk P G Bs as st h0 rs
def runDraw (P:Program) (G:Nat) (ih:Task→Option (List Out)) (rd:Option Nat) (ops:Array Oper) (st:St):Option St:=
 let Bs:=Region.before ops
 bif edgesOk ops.toList 0&&namesOk ops Bs ops.toList 0 then
  match drOps P G ih rd st.sz ops Bs st.h.nx ops.toList 0 {tm:=st.tm,df:=st.df,h:={hp:=st.h.hp,nx:=st.h.nx+ops.size,mw:=st.h.mw},as:=[],es:=[],rs:=[]} with
  |some d=>
   bif recsOk P G Bs d.as (stagesOf d.rs []) {hp:=st.h.hp,nx:=st.h.nx+ops.size,mw:=st.h.mw} d.rs then
    some {tm:=d.tm,sz:=st.sz,df:=d.df,h:=withA (2^ops.size-1) d.h d.as}
   else none
  |none=>none
 else none
def targetA (G:Nat) (tm:TV):Op→Option (Nat×Nat×List Value)
 | .store _ a x=>match aeval G tm a,aeval G tm x with
   |some (.pointer (some ⟨i,k,none⟩)),some v=>some (i,k,v.cells.toList)
   |_,_=>none
 |_=>none
def apartA (x y:Nat×Nat×List Value):Bool:=
 !(Nat.beq x.1 y.1)||(Nat.ble (x.2.1+x.2.2.length) y.2.1||Nat.ble (y.2.1+y.2.2.length) x.2.1)
def wroteA (G:Nat) (t:Nat×Nat×List Value) (h:H):H:=match h.write G t.1 t.2.1 t.2.2 with|some h'=>h'|none=>h
def effOk (G B:Nat) (t:Nat×Nat×List Value):List Rec→Bool
 |[]=>true
 |r::rs=>(match r.k with| .acts _ _=>Nat.testBit B r.i||(match targetA G r.tm r.o.op with|some t'=>apartA t t'|none=>false)|_=>true)&&effOk G B t rs
def recsB (P:Program) (G:Nat) (Bs:Array Nat) (B:Nat) (as:List (Nat×Nat×AObj)) (st:List Stage) (h0:H):List Rec→Bool
 |[]=>true
 |r::rs=>(match r.k with| .reads=>Nat.testBit B r.i||(noHeap r.o.op||walkOk P G Bs (Bs.getD r.i 0) as r st h0)|_=>true)&&recsB P G Bs B as st h0 rs
def lastOk (P:Program) (G:Nat) (Bs:Array Nat) (B:Nat) (as:List (Nat×Nat×AObj)) (h0:H) (r:Rec) (rs:List Rec):Bool:=
 match r.k,targetA G r.tm r.o.op with
 | .acts _ _,some t=>
   (h0::(stagesOf rs []).map (·.h)).all (fun h=>(h.write G t.1 t.2.1 t.2.2).isSome)&&(effOk G B t rs&&
     recsB P G Bs B as ((stagesOf rs []).map fun e=>⟨e.i,e.df,wroteA G t e.h⟩) (wroteA G t h0) rs)
 |_,_=>false
def runDrawS (P:Program) (G:Nat) (ih:Task→Option (List Out)) (rd:Option Nat) (ops:Array Oper) (st:St):Option St:=
 let Bs:=Region.before ops
 let s:=ops.size-1
 let h0:H:={hp:=st.h.hp,nx:=st.h.nx+ops.size,mw:=st.h.mw}
 bif edgesOk ops.toList 0&&namesOk ops Bs ops.toList 0 then
  match drOps P G ih rd st.sz ops (Bs.setIfInBounds s (2^s-1)) st.h.nx ops.toList 0 {tm:=st.tm,df:=st.df,h:=h0,as:=[],es:=[],rs:=[]} with
  |some d=>match d.rs with
   |r::rs=>bif recsOk P G Bs d.as (stagesOf d.rs []) h0 d.rs&&lastOk P G Bs (Bs.getD s 0) d.as h0 r rs then
     some {tm:=d.tm,sz:=st.sz,df:=d.df,h:=withA (2^ops.size-1) d.h d.as}
    else none
   |[]=>none
  |none=>none
 else none
def runDrawA (P:Program) (G:Nat) (ih:Task→Option (List Out)) (rd:Option Nat) (ops:Array Oper) (st:St):Option St:=
 match runDraw P G ih rd ops st with
 |some s=>some s
 |none=>runDrawS P G ih rd ops st
def resultsA (P:Program) (tm:TV) (h:H):List ResultVar→Option (List Value)
 |[]=>some []
 | .tmp t::r=>match tm.get t,resultsA P tm h r with
   |some v,some l=>some (v::l)
   |_,_=>none
 | .cell a t::r=>match tm.get a,resultsA P tm h r with
   |some (.pointer (some ⟨i,k,none⟩)),some l=>(h.loadA P t i k).map (· ::l)
   |_,_=>none
def tupleOf:List Value→Value
 |[v]=>v
 |l=> .tuple l.toArray
def leaveA (P:Program) (G:Nat) (ih:Task→Option (List Out)) (fn:Func) (tm:TV):List Deferred→H→Option (List (Value×H))
 |[],h=>(resultsA P tm h fn.results.toList).map fun l=>[(tupleOf l,h)]
 |d::ds,h=>
  match d.target with
  | .collected b=>match h.hp.get b with
    |some (.defs true)=>bif Nat.ble G b then leaveA P G ih fn tm ds (h.put b (some (.defs false))) else none
    |_=>none
  | .fn (.func g) captured=>
    match P.funcs[g]? with
    |some gn=>match gn.body with
     |some _=>obind (ih (.call g (d.args.toList++captured.toList) h)) fun
       | .call _ h1=>leaveA P G ih fn tm ds h1
       | .code _ _=>none
     |none=>none
    |none=>none
  |_=>none
def sameAll (v:Value) (lim:Nat):List (Value×H)→Bool
 |[]=>true
 |(w,h)::r=>veq 8 v w&&Nat.ble lim h.mw&&sameAll v lim r
def merge (h0:H):List (Value×H)→Option (List Out)
 |[]=>none
 |[(v,h)]=>some [.call v {h with mw:=bif Nat.ble h0.mw h.mw then h0.mw else h.mw}]
 |(v,h)::r=>bif af 8 v&&sameAll v h0.nx ((v,h)::r) then some [.call v h0] else none
def far:Nat:=1152921504606846976
def args0:List Value→Nat→TV→TV
 |[],_,t=>t
 |v::r,i,t=>args0 r (i+1) (t.set i (some v))
def leaveOf (P:Program) (G:Nat) (ih:Task→Option (List Out)) (fn:Func):Out→Option (List (Value×H))
 | .code .normal st=>leaveA P G ih fn st.tm st.df st.h
 | .code .ret st=>leaveA P G ih fn st.tm st.df st.h
 |_=>none
def callStep (P:Program) (G:Nat) (ih:Task→Option (List Out)) (f:FuncId) (args:List Value) (h:H):Option (List Out):=
 match P.funcs[f]? with
 |some fn=>match fn.body with
  |some c=>
   bif Nat.ble args.length fn.ntmps then
    match obind (ih (.code c none {tm:=args0 args 0 .e,sz:=fn.ntmps,df:=[],h:={h with mw:=far}})) (leaveOf P G ih fn) with
    |some l=>merge h l
    |none=>none
   else none
  |none=>none
 |none=>none
def seqStep (ih:Task→Option (List Out)) (b:Code) (rd:Option Nat):Out→Option (List Out)
 | .code .normal s=>ih (.code b rd s)
 |o=>some [o]
def blockStep (id:Nat):Out→Option (List Out)
 | .code (.exit j) s=>bif Nat.beq j id then some [.code .normal s] else some [.code (.exit j) s]
 |o=>some [o]
def condStep (G:Nat) (ih:Task→Option (List Out)) (rd:Option Nat) (st:St) (c:Operand) (a b:Code):Option (List Out):=
 match aeval G st.tm c with
 |some (.bool true)=>ih (.code a rd st)
 |some (.bool false)=>ih (.code b rd st)
 |_=>none
def normals:St→Option (List Out):=fun s=>some [.code .normal s]
def regionStep (P:Program) (G:Nat) (ih:Task→Option (List Out)) (rd:Option Nat) (st:St) (ops:Array Oper) (draw:Bool):Option (List Out):=
 bif draw then (match runDrawA P G ih rd ops st with|some s=>some [.code .normal s]|none=>none)
 else obind (runOps P G ih rd ops ops.toList st) normals
def endRange (st:St) (df:List Deferred) (l:Nat):Out→Option (List Out)
 | .call _ h2=>match h2.hp.get l with
   |some (.round s pend tm sz ps as bd)=>
    match s,pend with
    | .busy,_=>none
    |_,none=>some [.code .normal {st with df:=df,h:=h2.put l (some (.round .exhausted pend tm sz ps as bd))}]
    |_,some (.exit id)=>some [.code (.exit id) {st with df:=df,h:=h2.put l (some (.round .exhausted pend tm sz ps as bd))}]
    |_,some .ret=>some [.code .ret {st with df:=df,h:=h2.put l (some (.round .exhausted pend tm sz ps as bd))}]
    |_,_=>none
   |_=>none
 | .code _ _=>none
def rangeGo (ih:Task→Option (List Out)) (st:St) (g:FuncId) (first captured:Array Value) (params:Array Tmp) (assign body:Code) (h1:H) (df:List Deferred):Option (List Out):=
 obind (ih (.call g (first.toList++[.func (.yield h1.nx) #[] #[]]++captured.toList) (h1.new (.round .ready none st.tm st.sz params assign body)))) (endRange st df h1.nx)
def rangeStep (P:Program) (G:Nat) (ih:Task→Option (List Out)) (rd:Option Nat) (st:St) (f:Operand) (params:Array Tmp) (assign body:Code):Option (List Out):=
 match aeval G st.tm f with
 |some (.func (.func g) first captured)=>
  match P.funcs[g]? with
  |some gn=>match gn.body,rd with
   |some _,some l=>match st.h.hp.get l with
    |some (.round ..)=>rangeGo ih st g first captured params assign body st.h st.df
    |_=>none
   |some _,none=>rangeGo ih st g first captured params assign body (st.h.new (.defs true)) ({target:= .collected st.h.nx,args:=#[]}::st.df)
   |none,_=>none
  |none=>none
 |_=>none
def codeStep (P:Program) (G:Nat) (ih:Task→Option (List Out)) (rd:Option Nat) (st:St):Code→Option (List Out)
 | .skip=>some [.code .normal st]
 | .label _=>some [.code .normal st]
 | .region _ ops draw=>regionStep P G ih rd st ops draw
 | .seq a b=>obind (ih (.code a rd st)) (seqStep ih b rd)
 | .cond c a b=>condStep G ih rd st c a b
 | .block id body=>obind (ih (.code body rd st)) (blockStep id)
 | .loop body=>obind (ih (.code body rd st)) (seqStep ih (.loop body) rd)
 | .scope body=>ih (.code body rd st)
 | .exit id=>some [.code (.exit id) st]
 | .ret=>some [.code .ret st]
 | .rangeFunc f params assign body=>rangeStep P G ih rd st f params assign body
 |_=>none
def evStep (P:Program) (G:Nat) (ih:Task→Option (List Out)):Task→Option (List Out)
 | .call f args h=>callStep P G ih f args h
 | .code c rd st=>codeStep P G ih rd st c
def ev (P:Program) (G:Nat):Nat→Task→Option (List Out)
 |0,_=>none
 |n+1,t=>evStep P G (ev P G n) t
def L2 {α β:Type} (R:α→β→Prop) (l:List α) (m:List β):Prop:=l.length=m.length∧∀ (i:Nat) x y,l[i]? =some x→m[i]? =some y→R x y
section
variable {α β:Type} {R S:α→β→Prop}
theorem L2.nil:L2 R ([]:List α) ([]:List β):=⟨rfl,fun i x y h=>by simp at h⟩
theorem L2.cons {a:α} {b:β} {l:List α} {m:List β} (h:R a b) (t:L2 R l m):L2 R (a::l) (b::m):=
 ⟨by simp [t.1],fun i x y hx hy=>by cases i with
   |zero=>simp at hx hy;subst hx hy;exact h
   |succ i=>exact t.2 i x y (by simpa using hx) (by simpa using hy)⟩
theorem L2.head {a:α} {b:β} {l:List α} {m:List β} (h:L2 R (a::l) (b::m)):R a b:=h.2 0 a b rfl rfl
theorem L2.tail {a:α} {b:β} {l:List α} {m:List β} (h:L2 R (a::l) (b::m)):L2 R l m:=
 ⟨by have:=h.1;simpa using this,fun i x y hx hy=>h.2 (i+1) x y (by simpa using hx) (by simpa using hy)⟩
theorem L2.mono {l:List α} {m:List β} (h:L2 R l m) (k:∀ x y,R x y→S x y):L2 S l m:=⟨h.1,fun i x y hx hy=>k _ _ (h.2 i x y hx hy)⟩
theorem L2.get {l:List α} {m:List β} (h:L2 R l m) {i:Nat} {x:α} (hx:l[i]? =some x):∃ y,m[i]? =some y∧R x y:=by
 have hi:i<m.length:=by rw [←h.1];exact (List.getElem?_eq_some_iff.1 hx).1
 exact ⟨m[i],List.getElem?_eq_getElem hi,h.2 i x _ hx (List.getElem?_eq_getElem hi)⟩
theorem L2.take {l:List α} {m:List β} (h:L2 R l m) (n:Nat):L2 R (l.take n) (m.take n):=
 ⟨by simp [h.1],fun i x y hx hy=>by
   rw [List.getElem?_take] at hx hy
   by_cases hi:i<n
   ·rw [if_pos hi] at hx hy;exact h.2 i x y hx hy
   ·rw [if_neg hi] at hx;simp at hx⟩
theorem L2.drop {l:List α} {m:List β} (h:L2 R l m) (n:Nat):L2 R (l.drop n) (m.drop n):=
 ⟨by simp [h.1],fun i x y hx hy=>h.2 (n+i) x y (by simpa using hx) (by simpa using hy)⟩
theorem L2.append {l l':List α} {m m':List β} (h:L2 R l m) (h':L2 R l' m'):L2 R (l++l') (m++m'):=
 ⟨by simp [h.1,h'.1],fun i x y hx hy=>by
   by_cases hi:i<l.length
   ·rw [List.getElem?_append_left hi] at hx
    rw [List.getElem?_append_left (by rw [←h.1];exact hi)] at hy
    exact h.2 i x y hx hy
   ·rw [List.getElem?_append_right (by omega)] at hx
    rw [List.getElem?_append_right (by rw [←h.1];omega),←h.1] at hy
    exact h'.2 _ x y hx hy⟩
theorem L2.set {l:List α} {m:List β} (h:L2 R l m) (i:Nat) {a:α} {b:β} (hr:R a b):L2 R (l.set i a) (m.set i b):=
 ⟨by simp [h.1],fun j x y hx hy=>by
   rw [List.getElem?_set] at hx hy
   by_cases hj:i=j
   ·subst hj
    by_cases hl:i<l.length
    ·rw [if_pos rfl,if_pos hl] at hx;rw [if_pos rfl,if_pos (by rw [←h.1];exact hl)] at hy
     cases hx;cases hy;exact hr
    ·rw [if_pos rfl,if_neg hl] at hx;cases hx
   ·rw [if_neg hj] at hx hy;exact h.2 j x y hx hy⟩
theorem L2.forall_length {l:List α} {m:List β} (h:L2 R l m):l.length=m.length:=h.1
theorem L2.nil_left {m:List β} (h:L2 R ([]:List α) m):m=[]:=List.length_eq_zero_iff.1 (by rw [←h.1];rfl)
theorem L2.nil_right {l:List α} (h:L2 R l ([]:List β)):l=[]:=List.length_eq_zero_iff.1 (by rw [h.1];rfl)
theorem L2.cons_left {a:α} {l:List α} {m:List β} (h:L2 R (a::l) m):∃ b t,m=b::t∧R a b∧L2 R l t:=by
 cases m with
 |nil=>have:=h.1;simp at this
 |cons b t=>exact ⟨b,t,rfl,h.head,h.tail⟩
theorem L2.eq {l m:List α} {Q:α→α→Prop} (h:L2 Q l m) (k:∀ x y,Q x y→x∈l→x=y):l=m:=by
 apply List.ext_getElem?;intro i
 cases hx:l[i]? with
 |none=>
  have:m.length≤i:=by rw [←h.1];exact List.getElem?_eq_none_iff.1 hx
  rw [List.getElem?_eq_none this]
 |some x=>obtain ⟨y,hy,r⟩:=h.get hx;rw [hy,k x y r (List.mem_of_getElem? hx)]
end
abbrev Ren:=Nat→Nat×Nat×Nat
def capOk (z o c c':Nat):Prop:=if capEx c=true then c'=capLo c else capLo c≤c'∧o+c'*capSize c≤z
def In (n:Nat) (ρ:Ren) (i:Nat):Prop:=i<n∧(ρ i).2.1≤(ρ i).2.2
class Letters where
 eta:Nat→Value
 one:∀ j,(eta j).oneCell'=true
def LFit (r:Nat) (v:Value):Prop:=r=0∨∃ z,v= .int .i64 z∧(r/4%18446744073709551616:Int)≤z+9223372036854775808∧z+9223372036854775808≤(r/73786976294838206464:Nat)
variable [Letters]
inductive VR (n:Nat) (ρ:Ren):Value→Value→Prop
 |letter (k:FloatKind) (r j:Nat) (h:LFit r (Letters.eta j)):VR n ρ (.complex k r j) (Letters.eta j)
 |bool (b:Bool):VR n ρ (.bool b) (.bool b)
 |int (k:IntKind) (m:Int):VR n ρ (.int k m) (.int k m)
 |float (k:FloatKind) (m:Nat):VR n ρ (.float k m) (.float k m)
 |string (s:ByteArray):VR n ρ (.string s) (.string s)
 |nilptr:VR n ρ (.pointer none) (.pointer none)
 |ptr (i k:Nat) (h:In n ρ i):VR n ρ (.pointer (some ⟨i,k,none⟩)) (.pointer (some ⟨(ρ i).1,(ρ i).2.1+k,none⟩))
 |nilslice (a b:Nat):VR n ρ (.slice none a b) (.slice none a b)
 |slice (i k l c c':Nat) (h:In n ρ i) (hc:capOk (ρ i).2.2 ((ρ i).2.1+k) c c'):VR n ρ (.slice (some ⟨i,k,none⟩) l c) (.slice (some ⟨(ρ i).1,(ρ i).2.1+k,none⟩) l c')
 |nilmap:VR n ρ (.map none) (.map none)
 |map (i:Nat) (h:In n ρ i):VR n ρ (.map (some i)) (.map (some (ρ i).1))
 |func (f:FuncId) (a a' b b':Array Value) (ha:a.toList.length=a'.toList.length) (hA:∀ (i:Nat) x y,a.toList[i]? =some x→a'.toList[i]? =some y→VR n ρ x y)
   (hb:b.toList.length=b'.toList.length) (hB:∀ (i:Nat) x y,b.toList[i]? =some x→b'.toList[i]? =some y→VR n ρ x y):VR n ρ (.func (.func f) a b) (.func (.func f) a' b')
 |yield (i:Nat) (h:In n ρ i):VR n ρ (.func (.yield i) #[] #[]) (.func (.yield (ρ i).1) #[] #[])
 |nilFunc:VR n ρ .nilFunc .nilFunc
 |iface (t:TypeId) (v v':Value) (h:VR n ρ v v'):VR n ρ (.iface t v) (.iface t v')
 |nilIface:VR n ρ .nilIface .nilIface
 |agg (a a':Array Value) (ha:a.toList.length=a'.toList.length) (hA:∀ (i:Nat) x y,a.toList[i]? =some x→a'.toList[i]? =some y→VR n ρ x y):VR n ρ (.agg a) (.agg a')
 |tuple (a a':Array Value) (ha:a.toList.length=a'.toList.length) (hA:∀ (i:Nat) x y,a.toList[i]? =some x→a'.toList[i]? =some y→VR n ρ x y):VR n ρ (.tuple a) (.tuple a')
abbrev V2 (n:Nat) (ρ:Ren):=L2 (VR n ρ)
theorem VR.agg' {n:Nat} {ρ:Ren} {a a':Array Value} (h:V2 n ρ a.toList a'.toList):VR n ρ (.agg a) (.agg a'):= .agg a a' h.1 h.2
theorem VR.tuple' {n:Nat} {ρ:Ren} {a a':Array Value} (h:V2 n ρ a.toList a'.toList):VR n ρ (.tuple a) (.tuple a'):= .tuple a a' h.1 h.2
theorem VR.func' {n:Nat} {ρ:Ren} {f:FuncId} {a a' b b':Array Value} (h:V2 n ρ a.toList a'.toList) (k:V2 n ρ b.toList b'.toList):VR n ρ (.func (.func f) a b) (.func (.func f) a' b'):= .func f a a' b b' h.1 h.2 k.1 k.2
def Agree (n:Nat) (ρ ρ':Ren):Prop:=∀ i,In n ρ i→ρ' i=ρ i
omit [Letters] in
theorem Agree.refl (n:Nat) (ρ:Ren):Agree n ρ ρ:=fun _ _=>rfl
omit [Letters] in
theorem In.mono {n m:Nat} {ρ σ:Ren} {i:Nat} (h:In n ρ i) (hn:n≤m) (hσ:Agree n ρ σ):In m σ i:=⟨Nat.lt_of_lt_of_le h.1 hn,by rw [hσ i h];exact h.2⟩
omit [Letters] in
theorem Agree.trans {n m:Nat} {ρ σ τ:Ren} (h:Agree n ρ σ) (k:Agree m σ τ) (hn:n≤m):Agree n ρ τ:=fun i hi=>(k i (hi.mono hn h)).trans (h i hi)
omit [Letters] in
theorem Agree.mono {n m:Nat} {ρ σ:Ren} (h:Agree n ρ σ) (hm:m≤n):Agree m ρ σ:=fun i hi=>h i ⟨Nat.lt_of_lt_of_le hi.1 hm,hi.2⟩
theorem VR.mono {n m:Nat} {ρ σ:Ren} (hn:n≤m) (hσ:Agree n ρ σ) {v v':Value} (h:VR n ρ v v'):VR m σ v v':=by
 induction h with
 |letter k r j h=>exact .letter k r j h
 |bool b=>exact .bool b
 |int k q=>exact .int k q
 |float k q=>exact .float k q
 |string s=>exact .string s
 |nilptr=>exact .nilptr
 |ptr i k h=>have:=hσ i h;rw [←this];exact .ptr i k (h.mono hn hσ)
 |nilslice a b=>exact .nilslice a b
 |slice i k l c c' h hc=>have:=hσ i h;rw [←this] at hc ⊢;exact .slice i k l c c' (h.mono hn hσ) hc
 |nilmap=>exact .nilmap
 |map i h=>have:=hσ i h;rw [←this];exact .map i (h.mono hn hσ)
 |func f a a' b b' ha _ hb _ ihA ihB=>exact .func f a a' b b' ha ihA hb ihB
 |yield i h=>have:=hσ i h;rw [←this];exact .yield i (h.mono hn hσ)
 |nilFunc=>exact .nilFunc
 |iface t v v' _ ih=>exact .iface t v v' ih
 |nilIface=>exact .nilIface
 |agg a a' ha _ ih=>exact .agg a a' ha ih
 |tuple a a' ha _ ih=>exact .tuple a a' ha ih
omit [Letters] in
theorem one_cells {v:Value} (h:v.oneCell'=true):v.cells.toList=[v]:=by cases v<;>first|rfl|cases h
theorem VR.cells {n:Nat} {ρ:Ren} {v v':Value} (h:VR n ρ v v'):V2 n ρ v.cells.toList v'.cells.toList:=by
 cases h with
 |letter k r j h=>rw [one_cells (Letters.one j)];exact L2.cons (.letter k r j h) L2.nil
 |agg a a' ha hA=>exact ⟨ha,hA⟩
 |bool b=>exact L2.cons (.bool b) L2.nil
 |int k q=>exact L2.cons (.int k q) L2.nil
 |float k q=>exact L2.cons (.float k q) L2.nil
 |string s=>exact L2.cons (.string s) L2.nil
 |nilptr=>exact L2.cons .nilptr L2.nil
 |ptr i k h=>exact L2.cons (.ptr i k h) L2.nil
 |nilslice a b=>exact L2.cons (.nilslice a b) L2.nil
 |slice i k l c c' h hc=>exact L2.cons (.slice i k l c c' h hc) L2.nil
 |nilmap=>exact L2.cons .nilmap L2.nil
 |map i h=>exact L2.cons (.map i h) L2.nil
 |func f a a' b b' ha hA hb hB=>exact L2.cons (.func f a a' b b' ha hA hb hB) L2.nil
 |yield i h=>exact L2.cons (.yield i h) L2.nil
 |nilFunc=>exact L2.cons .nilFunc L2.nil
 |iface t v v' h=>exact L2.cons (.iface t v v' h) L2.nil
 |nilIface=>exact L2.cons .nilIface L2.nil
 |tuple a a' ha hA=>exact L2.cons (.tuple a a' ha hA) L2.nil
theorem VR.cells_size {n:Nat} {ρ:Ren} {v v':Value} (h:VR n ρ v v'):v'.cells.size=v.cells.size:=by
 have:=h.cells.1;simpa using this.symm
theorem VR.oneCell {n:Nat} {ρ:Ren} {v v':Value} (h:VR n ρ v v') (h1:CE.oneCell v=true):(∀ a,v'≠ .agg a)∧(∀ a,v'≠ .tuple a):=by
 cases h with
 |letter k r j h=>
  have:=Letters.one j
  exact ⟨fun a e=>(by rw [e] at this;cases this),fun a e=>(by rw [e] at this;cases this)⟩
 |_=>simp_all [CE.oneCell]
theorem af_eq {n:Nat} {ρ:Ren}:∀ (m:Nat) (v v':Value),af m v=true→VR n ρ v v'→v'=v:=by
 intro m
 induction m with
 |zero=>intro v v' h;simp [af] at h
 |succ m ih=>
  have all:∀ (a a':Array Value),a.toList.all (af m)=true→V2 n ρ a.toList a'.toList→a'=a:=by
   intro a a' h k
   have:a.toList=a'.toList:=L2.eq k (fun x y r hx=>(ih x y (List.all_eq_true.1 h x hx) r).symm)
   exact Array.toList_inj.1 this.symm
  intro v v' h r
  cases r with
  |iface t x x' hx=>rw [ih x x' (by simpa [af] using h) hx]
  |agg a a' ha hA=>rw [all a a' (by simpa [af] using h) ⟨ha,hA⟩]
  |tuple a a' ha hA=>rw [all a a' (by simpa [af] using h) ⟨ha,hA⟩]
  |func f a a' b b' ha hA hb hB=>
   simp only [af,Bool.and_eq_true] at h
   rw [all a a' h.1 ⟨ha,hA⟩,all b b' h.2 ⟨hb,hB⟩]
  |_=>first|rfl|simp [af] at h
theorem af_self {n:Nat} {ρ:Ren}:∀ (m:Nat) (v:Value),af m v=true→VR n ρ v v:=by
 intro m
 induction m with
 |zero=>intro v h;simp [af] at h
 |succ m ih=>
  have all:∀ (a:Array Value),a.toList.all (af m)=true→V2 n ρ a.toList a.toList:=by
   intro a h
   refine ⟨rfl,fun i x y hx hy=>?_⟩
   rw [hx] at hy;cases hy
   exact ih x (List.all_eq_true.1 h x (List.mem_of_getElem? hx))
  intro v h
  cases v with
  |bool b=>exact .bool b
  |int k q=>exact .int k q
  |float k q=>exact .float k q
  |complex k a b=>simp [af] at h
  |string s=>exact .string s
  |pointer a=>cases a with
   |none=>exact .nilptr
   |some a=>simp [af] at h
  |slice a l c=>cases a with
   |none=>exact .nilslice l c
   |some a=>simp [af] at h
  |map a=>cases a with
   |none=>exact .nilmap
   |some a=>simp [af] at h
  |chan a=>simp [af] at h
  |func fn a b=>cases fn with
   |func f=>simp only [af,Bool.and_eq_true] at h;exact VR.func' (all a h.1) (all b h.2)
   |_=>simp [af] at h
  |nilFunc=>exact .nilFunc
  |iface t x=>exact .iface t x x (ih x (by simpa [af] using h))
  |nilIface=>exact .nilIface
  |agg a=>exact VR.agg' (all a (by simpa [af] using h))
  |tuple a=>exact VR.tuple' (all a (by simpa [af] using h))
theorem VR.undef {n:Nat} {ρ:Ren}:VR n ρ undef undef:=VR.tuple' L2.nil
end Go.CE
namespace Go.CE
open Go Go.RowKit
variable [Letters]
def EntR (n:Nat) (ρ:Ren) (e e':MapEntry):Prop:=VR n ρ e.key e'.key∧VR n ρ e.val e'.val∧e'.born=e.born
def TR (n:Nat) (ρ:Ren) (tm:TV) (tmps:Array Value):Prop:=∀ t v,tm.get t=some v→∃ v',tmps[t]? =some v'∧VR n ρ v v'
inductive ObjR (n:Nat) (ρ:Ren) (i:Nat):AObj→Obj→Prop
 |cells (cs:List Value) (c:Array Value) (e:TypeId) (fz:Nat×Nat) (hz:c.size=(ρ i).2.2) (hl:(ρ i).2.1+cs.length≤c.size)
   (hv:∀ j x,cs[j]? =some x→∃ y,c[(ρ i).2.1+j]? =some y∧VR n ρ x y) (hf:fz.1=fz.2∨c.size≤fz.1):ObjR n ρ i (.cells cs) (.cells c e fz)
 |map (es:List MapEntry) (clock:Nat) (es':Array MapEntry) (hm:L2 (EntR n ρ) es es'.toList):ObjR n ρ i (.map es clock) (.map es' clock)
 |text (s:ByteArray) (p:Nat) (h0:(ρ i).2.1=0):ObjR n ρ i (.text s p) (.stringIter s p)
 |walk0 (a c:Nat) (b:List Nat) (h0:(ρ i).2.1=0):ObjR n ρ i (.walk none a b c) (.mapIter none a b.reverse.toArray c)
 |walk (m since:Nat) (seen:List Nat) (stepped:Nat) (h:In n ρ m) (h0:(ρ i).2.1=0):ObjR n ρ i (.walk (some m) since seen stepped) (.mapIter (some (ρ m).1) since seen.reverse.toArray stepped)
 |round (st:LoopState) (pend:Option Code) (tm:TV) (tmps:Array Value) (params:Array Tmp) (assign body:Code) (fn:FuncId) (d:Nat) (ht:TR n ρ tm tmps):
   ObjR n ρ i (.round st pend tm tmps.size params assign body) (.loop {state:=st,pending:=pend,fn,tmps,params,assign,body,defers:=d})
 |defs (b:Bool):ObjR n ρ i (.defs b) (.deferred (if b=true then some [] else none))
theorem TR.mono {n m:Nat} {ρ σ:Ren} {tm:TV} {tmps:Array Value} (h:TR n ρ tm tmps) (hn:n≤m) (hσ:Agree n ρ σ):TR m σ tm tmps:=
 fun t v ht=>let ⟨v',h1,h2⟩:=h t v ht;⟨v',h1,h2.mono hn hσ⟩
theorem EntR.mono {n m:Nat} {ρ σ:Ren} {e e':MapEntry} (h:EntR n ρ e e') (hn:n≤m) (hσ:Agree n ρ σ):EntR m σ e e':=⟨h.1.mono hn hσ,h.2.1.mono hn hσ,h.2.2⟩
theorem ObjR.mono {n m:Nat} {ρ σ:Ren} {i:Nat} {o:AObj} {ob:Obj} (h:ObjR n ρ i o ob) (hi:In n ρ i) (hn:n≤m) (hσ:Agree n ρ σ):ObjR m σ i o ob:=by
 have e:=hσ i hi
 cases h with
 |cells cs c ty fz hz hl hv hf=>
  rw [←e] at hz hl hv
  exact .cells cs c ty fz hz hl (fun j x hx=>let ⟨y,h1,h2⟩:=hv j x hx;⟨y,h1,h2.mono hn hσ⟩) hf
 |map es clock es' hm=>exact .map es clock es' (hm.mono fun _ _ h=>h.mono hn hσ)
 |text s p h0=>exact .text s p (by rw [e];exact h0)
 |walk0 a c b h0=>exact .walk0 a c b (by rw [e];exact h0)
 |walk k since seen stepped h h0=>have:=hσ k h;rw [←this];exact .walk k since seen stepped (h.mono hn hσ) (by rw [e];exact h0)
 |round st pend tm tmps params assign body fn d ht=>exact .round st pend tm tmps params assign body fn d (ht.mono hn hσ)
 |defs b=>exact .defs b
structure HR (G:Nat) (h:H) (ρ:Ren) (w:World):Prop where
 obj:∀ i o,h.hp.get i=some o→In h.nx ρ i∧∃ ob,w.heap[(ρ i).1]? =some ob∧ObjR h.nx ρ i o ob
 inj:∀ i j,h.hp.get i≠none→h.hp.get j≠none→(ρ i).1=(ρ j).1→i=j
 glob:∀ g,g<G→(ρ g).1=g∧(ρ g).2.1=0
 bound:G≤h.nx
structure Tr (G:Nat) (h h':H) (ρ ρ':Ren) (w w':World):Prop where
 nx:h.nx≤h'.nx
 agree:Agree h.nx ρ ρ'
 os:w'.os=w.os
 tape:w'.tape=w.tape
 output:w'.output=w.output
 size:w.heap.size≤w'.heap.size
 block:∀ b,b<w.heap.size→(∀ i,G≤i→h.hp.get i≠none→(ρ i).1≠b)→w'.heap[b]? =w.heap[b]?
 own:∀ i,G≤i→h'.hp.get i≠none→(∃ j,G≤j∧h.hp.get j≠none∧(ρ j).1=(ρ' i).1)∨w.heap.size≤(ρ' i).1
 mw:h'.mw≤h.mw
 same:∀ i,In h.nx ρ i→i<h'.mw→h'.hp.get i=h.hp.get i
 glo:∀ i,i<G→h'.hp.get i=h.hp.get i
 keep:∀ i,i<h.nx→ρ' i=ρ i
omit [Letters] in
theorem Tr.refl (G:Nat) (h:H) (ρ:Ren) (w:World):Tr G h h ρ ρ w w:=
 ⟨Nat.le_refl _,Agree.refl _ _,rfl,rfl,rfl,Nat.le_refl _,fun _ _ _=>rfl,fun i hi hl=> .inl ⟨i,hi,hl,rfl⟩,Nat.le_refl _,fun _ _ _=>rfl,fun _ _=>rfl,fun _ _=>rfl⟩
omit [Letters] in
theorem Tr.trans {G:Nat} {h h1 h2:H} {ρ ρ1 ρ2:Ren} {w w1 w2:World} (a:Tr G h h1 ρ ρ1 w w1) (b:Tr G h1 h2 ρ1 ρ2 w1 w2):Tr G h h2 ρ ρ2 w w2:=by
 refine ⟨Nat.le_trans a.nx b.nx,a.agree.trans b.agree a.nx,b.os.trans a.os,b.tape.trans a.tape,b.output.trans a.output,Nat.le_trans a.size b.size,?_,?_,Nat.le_trans b.mw a.mw,?_,fun i hi=>(b.glo i hi).trans (a.glo i hi),fun i hi=>(b.keep i (Nat.lt_of_lt_of_le hi a.nx)).trans (a.keep i hi)⟩
 ·intro k hk hno
  rw [←a.block k hk hno]
  refine b.block k (Nat.lt_of_lt_of_le hk a.size) ?_
  intro i hi hl e
  rcases a.own i hi hl with ⟨j,hj,hjl,hje⟩|hf
  ·exact hno j hj hjl (hje.trans e)
  ·omega
 ·intro i hi hl
  rcases b.own i hi hl with ⟨j,hj,hjl,hje⟩|hf
  ·rcases a.own j hj hjl with ⟨k,hk,hkl,hke⟩|hf
   ·exact .inl ⟨k,hk,hkl,hke.trans hje⟩
   ·exact .inr (by rw [←hje];exact hf)
  ·exact .inr (Nat.le_trans a.size hf)
 ·intro i hi hm
  rw [b.same i (hi.mono a.nx a.agree) hm]
  exact a.same i hi (Nat.lt_of_lt_of_le hm b.mw)
def upd (ρ:Ren) (i:Nat) (x:Nat×Nat×Nat):Ren:=fun j=>if j=i then x else ρ j
omit [Letters] in
theorem upd_same (ρ:Ren) (i:Nat) (x:Nat×Nat×Nat):upd ρ i x i=x:=by simp [upd]
omit [Letters] in
theorem upd_other {ρ:Ren} {i j:Nat} (x:Nat×Nat×Nat) (h:j≠i):upd ρ i x j=ρ j:=by simp [upd,h]
omit [Letters] in
theorem upd_agree (ρ:Ren) (n:Nat) (x:Nat×Nat×Nat):Agree n ρ (upd ρ n x):=fun i hi=>upd_other x (by have:=hi.1;omega)
theorem HR.lt {G:Nat} {h:H} {ρ:Ren} {w:World} (a:HR G h ρ w) {i:Nat} {o:AObj} (hi:h.hp.get i=some o):(ρ i).1<w.heap.size:=by
 obtain ⟨_,ob,h1,_⟩:=a.obj i o hi
 exact (Array.getElem?_eq_some_iff.1 h1).1
omit [Letters] in
theorem get_ne {α:Type} {o:Option α} {x:α} (h:o=some x):o≠none:=by rw [h];simp
omit [Letters] in
theorem some_of_ne {α:Type} {o:Option α} (h:o≠none):∃ x,o=some x:=by cases o with|none=>exact absurd rfl h|some x=>exact ⟨x,rfl⟩
theorem HR.drew {G:Nat} {h:H} {ρ:Ren} {w w':World} (a:HR G h ρ w) (hh:w'.heap=w.heap):HR G h ρ w':=
 ⟨fun i o hi=>by rw [hh];exact a.obj i o hi,a.inj,a.glob,a.bound⟩
omit [Letters] in
theorem Tr.drew (G:Nat) (h:H) (ρ:Ren) {w w':World} (hh:w'.heap=w.heap) (ho:w'.os=w.os) (ht:w'.tape=w.tape) (hu:w'.output=w.output):Tr G h h ρ ρ w w':=
 ⟨Nat.le_refl _,Agree.refl _ _,ho,ht,hu,by rw [hh];exact Nat.le_refl _,fun _ _ _=>by rw [hh],fun i hi hl=> .inl ⟨i,hi,hl,rfl⟩,Nat.le_refl _,fun _ _ _=>rfl,fun _ _=>rfl,fun _ _=>rfl⟩
theorem HR.new {G:Nat} {h:H} {ρ:Ren} {w:World} (a:HR G h ρ w) (o:AObj) (ob:Obj) (z:Nat)
 (ho:ObjR (h.nx+1) (upd ρ h.nx (w.heap.size,0,z)) h.nx o ob):
 HR G (h.new o) (upd ρ h.nx (w.heap.size,0,z)) (w.alloc ob)∧Tr G h (h.new o) ρ (upd ρ h.nx (w.heap.size,0,z)) w (w.alloc ob):=by
 have hag:=upd_agree ρ h.nx (w.heap.size,0,z)
 have hget:∀ i,(h.new o).hp.get i=if i=h.nx then some o else h.hp.get i:=fun i=>TH.get_set _ _ _ _
 have hnone:h.hp.get h.nx=none:=by
  cases hc:h.hp.get h.nx with
  |none=>rfl
  |some x=>have:=(a.obj _ _ hc).1.1;omega
 constructor
 ·refine ⟨?_,?_,?_,?_⟩
  ·intro i x hx
   rw [hget] at hx
   by_cases e:i=h.nx
   ·subst e
    rw [if_pos rfl] at hx;cases hx
    refine ⟨⟨Nat.lt_succ_self _,by rw [upd_same];exact Nat.zero_le _⟩,ob,?_,ho⟩
    rw [upd_same]
    show (w.heap.push ob)[w.heap.size]? =some ob
    simp
   ·rw [if_neg e] at hx
    obtain ⟨hi,ob',h1,h2⟩:=a.obj i x hx
    refine ⟨hi.mono (Nat.le_succ _) hag,ob',?_,h2.mono hi (Nat.le_succ _) hag⟩
    rw [upd_other _ e,Below.heap_alloc _ _ _ (a.lt hx)]
    exact h1
  ·intro i j hi hj e
   rw [hget] at hi hj
   by_cases ei:i=h.nx<;>by_cases ej:j=h.nx
   ·rw [ei,ej]
   ·subst ei
    rw [upd_same,upd_other _ ej] at e
    rw [if_neg ej] at hj
    obtain ⟨x,hx⟩:=some_of_ne hj
    have:=a.lt hx;simp at e;omega
   ·subst ej
    rw [upd_same,upd_other _ ei] at e
    rw [if_neg ei] at hi
    obtain ⟨x,hx⟩:=some_of_ne hi
    have:=a.lt hx;simp at e;omega
   ·rw [upd_other _ ei,upd_other _ ej] at e
    rw [if_neg ei] at hi;rw [if_neg ej] at hj
    exact a.inj i j hi hj e
  ·intro g hg
   have hb:=a.bound
   rw [upd_other _ (by omega)]
   exact a.glob g hg
  ·exact Nat.le_succ_of_le a.bound
 ·refine ⟨Nat.le_succ _,hag,rfl,rfl,rfl,by simp,?_,?_,Nat.le_refl _,?_,?_,fun i hi=>upd_other _ (by omega)⟩
  ·intro b hb _;exact Below.heap_alloc _ _ _ hb
  ·intro i hi hl
   rw [hget] at hl
   by_cases e:i=h.nx
   ·subst e;rw [upd_same];exact .inr (Nat.le_refl _)
   ·rw [if_neg e] at hl;rw [upd_other _ e];exact .inl ⟨i,hi,hl,rfl⟩
  ·intro i hi _;rw [hget,if_neg (by have:=hi.1;omega)]
  ·intro i hi;have hb:=a.bound;rw [hget,if_neg (by omega)]
theorem HR.put {G:Nat} {h:H} {ρ:Ren} {w w':World} (a:HR G h ρ w) {i:Nat} {o:AObj} (hi:h.hp.get i=some o) (hG:G≤i) (o':AObj) {ob:Obj}
 (hs:w'.heap.size=w.heap.size) (hb:∀ b,b≠(ρ i).1→w'.heap[b]? =w.heap[b]?) (hn:w'.heap[(ρ i).1]? =some ob) (hos:w'.os=w.os) (ht:w'.tape=w.tape) (hout:w'.output=w.output)
 (ho:ObjR h.nx ρ i o' ob):HR G (h.put i (some o')) ρ w'∧Tr G h (h.put i (some o')) ρ ρ w w':=by
 have hget:∀ j,(h.put i (some o')).hp.get j=if j=i then some o' else h.hp.get j:=fun j=>TH.get_set _ _ _ _
 constructor
 ·refine ⟨?_,?_,a.glob,a.bound⟩
  ·intro j x hx
   rw [hget] at hx
   by_cases e:j=i
   ·subst e;rw [if_pos rfl] at hx;cases hx
    exact ⟨(a.obj _ _ hi).1,ob,hn,ho⟩
   ·rw [if_neg e] at hx
    obtain ⟨hj,ob',h1,h2⟩:=a.obj j x hx
    refine ⟨hj,ob',?_,h2⟩
    rw [hb _ (fun e'=>e (a.inj j i (get_ne hx) (get_ne hi) e'))];exact h1
  ·intro j k hj hk e
   rw [hget] at hj hk
   refine a.inj j k ?_ ?_ e
   ·by_cases ej:j=i
    ·subst ej;exact get_ne hi
    ·rwa [if_neg ej] at hj
   ·by_cases ek:k=i
    ·subst ek;exact get_ne hi
    ·rwa [if_neg ek] at hk
 ·refine ⟨Nat.le_refl _,Agree.refl _ _,hos,ht,hout,by rw [hs];exact Nat.le_refl _,?_,?_,?_,?_,?_,fun _ _=>rfl⟩
  ·intro b _ hno;exact hb b (fun e=>hno i hG (get_ne hi) e.symm)
  ·intro j hj hl
   rw [hget] at hl
   refine .inl ⟨j,hj,?_,rfl⟩
   by_cases ej:j=i
   ·subst ej;exact get_ne hi
   ·rwa [if_neg ej] at hl
  ·show (bif Nat.ble i h.mw then i else h.mw)≤h.mw
   cases hc:Nat.ble i h.mw with
   |true=>exact Nat.le_of_ble_eq_true hc
   |false=>exact Nat.le_refl _
  ·intro j _ hm
   rw [hget,if_neg]
   intro e;subst e
   have:j<(bif Nat.ble j h.mw then j else h.mw):=hm
   cases hc:Nat.ble j h.mw with
   |true=>rw [hc] at this;exact absurd this (Nat.lt_irrefl _)
   |false=>
    rw [hc] at this
    have h1:j<h.mw:=this
    have h2:=Nat.ble_eq_true_of_le (Nat.le_of_lt h1)
    rw [hc] at h2;cases h2
  ·intro j hj;rw [hget,if_neg (by omega)]
theorem HR.drop {G:Nat} {h:H} {ρ:Ren} {w:World} (a:HR G h ρ w) (i:Nat) (hG:G≤i):HR G (h.put i none) ρ w∧Tr G h (h.put i none) ρ ρ w w:=by
 have hget:∀ j,(h.put i none).hp.get j=if j=i then none else h.hp.get j:=fun j=>TH.get_set _ _ _ _
 constructor
 ·refine ⟨?_,?_,a.glob,a.bound⟩
  ·intro j x hx
   rw [hget] at hx
   by_cases e:j=i
   ·rw [if_pos e] at hx;cases hx
   ·rw [if_neg e] at hx;exact a.obj j x hx
  ·intro j k hj hk e
   rw [hget] at hj hk
   refine a.inj j k ?_ ?_ e
   ·intro hn;apply hj;split<;>simp_all
   ·intro hn;apply hk;split<;>simp_all
 ·refine ⟨Nat.le_refl _,Agree.refl _ _,rfl,rfl,rfl,Nat.le_refl _,fun _ _ _=>rfl,?_,?_,?_,?_,fun _ _=>rfl⟩
  ·intro j hj hl
   rw [hget] at hl
   refine .inl ⟨j,hj,?_,rfl⟩
   intro hn;apply hl;split<;>simp_all
  ·show (bif Nat.ble i h.mw then i else h.mw)≤h.mw
   cases hc:Nat.ble i h.mw with
   |true=>exact Nat.le_of_ble_eq_true hc
   |false=>exact Nat.le_refl _
  ·intro j _ hm
   rw [hget,if_neg]
   intro e;subst e
   have:j<(bif Nat.ble j h.mw then j else h.mw):=hm
   cases hc:Nat.ble j h.mw with
   |true=>rw [hc] at this;exact absurd this (Nat.lt_irrefl _)
   |false=>
    rw [hc] at this
    have h1:j<h.mw:=this
    have h2:=Nat.ble_eq_true_of_le (Nat.le_of_lt h1)
    rw [hc] at h2;cases h2
  ·intro j hj;rw [hget,if_neg (by omega)]
end Go.CE
