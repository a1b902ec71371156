/-
  The texts CeA of this claim, one behind the other.
-/
import GoSem.Step
import Derived.Control
import Derived.Lib.ReflectliteSwap
import Derived.Laws.Externs
import Derived.WalkKit
import Derived.Below
noncomputable section
namespace Go.CE
open Go
inductive BT (α:Type) where
 |e:BT α
 |n (l:BT α) (v:Option α) (r:BT α):BT α
def OD:Nat→Nat→List Bool
 |0,_=>[]
 |f+1,k=>bif Nat.beq k 0 then [] else Nat.beq (Nat.mod k 2) 1::OD f (Nat.div (Nat.sub k 1) 2)
def way (k:Nat):List Bool:=OD k k
def BT.vU {α:Type} (p:List Bool):BT α→Option α:=
 List.rec (motive:=fun _=>BT α→Option α) (fun t=>BT.rec (motive:=fun _=>Option α) none (fun _ v _ _ _=>v) t)
  (fun b _ ih t=>BT.rec (motive:=fun _=>Option α) none (fun l _ r _ _=>ih (Bool.rec (motive:=fun _=>BT α) r l b)) t) p
def BT.FH {α:Type} (v:Option α) (p:List Bool):BT α→BT α:=
 List.rec (motive:=fun _=>BT α→BT α) (fun t=>BT.rec (motive:=fun _=>BT α) (.n .e v .e) (fun l _ r _ _=> .n l v r) t)
  (fun b _ ih t=>BT.rec (motive:=fun _=>BT α)
    (Bool.rec (motive:=fun _=>BT α) (.n .e none (ih .e)) (.n (ih .e) none .e) b)
    (fun l u r _ _=>Bool.rec (motive:=fun _=>BT α) (.n l u (ih r)) (.n (ih l) u r) b) t) p
theorem BT.wV {α:Type} (p:List Bool):BT.vU p (BT.e:BT α)=none:=by cases p<;>rfl
theorem BT.Gq {α:Type} (v:Option α):∀ (p q:List Bool) (t:BT α),BT.vU q (BT.FH v p t)=if q=p then v else BT.vU q t:=by
 intro p
 induction p with
 |nil=>intro q t;cases t<;>cases q<;>simp [BT.FH,BT.vU]<;>(rename_i b r;cases b<;>first|rfl|exact BT.wV r)
 |cons b p ih=>
  intro q t
  cases t with
  |e=>
   cases q with
   |nil=>cases b<;>rfl
   |cons c q=>
    have h:=ih q BT.e
    cases b<;>cases c
    ·show BT.vU q (BT.FH v p BT.e)=_;rw [h];simp [BT.wV]
    ·show BT.vU q BT.e=_;simp [BT.wV]
    ·show BT.vU q BT.e=_;simp [BT.wV]
    ·show BT.vU q (BT.FH v p BT.e)=_;rw [h];simp [BT.wV]
  |n l u r=>
   cases q with
   |nil=>cases b<;>rfl
   |cons c q=>
    cases b<;>cases c
    ·show BT.vU q (BT.FH v p r)=_;rw [ih q r];simp;rfl
    ·show BT.vU q l=_;simp;rfl
    ·show BT.vU q r=_;simp;rfl
    ·show BT.vU q (BT.FH v p l)=_;rw [ih q l];simp;rfl
theorem WA:∀ (f g k l:Nat),k≤f→l≤g→OD f k=OD g l→k=l:=by
 intro f
 induction f with
 |zero=>
  intro g k l hk hl h
  obtain rfl:k=0:=by omega
  cases g with
  |zero=>omega
  |succ g=>
   simp only [OD] at h
   cases hb:Nat.beq l 0 with
   |true=>exact (Nat.eq_of_beq_eq_true hb).symm
   |false=>rw [hb] at h;simp at h
 |succ f ih=>
  intro g k l hk hl h
  cases g with
  |zero=>
   obtain rfl:l=0:=by omega
   simp only [OD] at h
   cases hb:Nat.beq k 0 with
   |true=>exact Nat.eq_of_beq_eq_true hb
   |false=>rw [hb] at h;simp at h
  |succ g=>
   simp only [OD] at h
   cases hb:Nat.beq k 0<;>cases hc:Nat.beq l 0<;>simp only [hb,hc,cond_true,cond_false] at h
   ·have hk0:k≠0:=fun e=>by subst e;simp at hb
    have hl0:l≠0:=fun e=>by subst e;simp at hc
    obtain ⟨h1,h2⟩:=List.cons.inj h
    have h3:=ih g _ _ (by show (k-1)/2≤f;omega) (by show (l-1)/2≤g;omega) h2
    have h3':(k-1)/2=(l-1)/2:=h3
    have hm:(k%2=1)↔(l%2=1):=by
     have e1:Nat.beq (Nat.mod k 2) 1=true↔k%2=1:=⟨fun h=>Nat.eq_of_beq_eq_true h,fun h=>by show Nat.beq (k%2) 1=true;rw [h];rfl⟩
     have e2:Nat.beq (Nat.mod l 2) 1=true↔l%2=1:=⟨fun h=>Nat.eq_of_beq_eq_true h,fun h=>by show Nat.beq (l%2) 1=true;rw [h];rfl⟩
     rw [←e1,←e2,h1]
    omega
   ·simp at h
   ·simp at h
   ·rw [Nat.eq_of_beq_eq_true hb,Nat.eq_of_beq_eq_true hc]
theorem Re {k l:Nat} (h:way k=way l):k=l:=WA k l k l (Nat.le_refl _) (Nat.le_refl _) h
theorem sixteen {d:Nat} (h:d<16):d=0∨d=1∨d=2∨d=3∨d=4∨d=5∨d=6∨d=7∨d=8∨d=9∨d=10∨d=11∨d=12∨d=13∨d=14∨d=15:=by omega
structure fF where
 a0:Option Value
 a1:Option Value
 a2:Option Value
 a3:Option Value
 a4:Option Value
 a5:Option Value
 a6:Option Value
 a7:Option Value
 a8:Option Value
 a9:Option Value
 aY:Option Value
 aZ:Option Value
 a12:Option Value
 bf:Option Value
 bg:Option Value
 bn:Option Value
structure jA where
 f:fF→Option Value
structure jB where
 f:Option Value→fF→fF
def fF.pE (d:Nat):jA:=
 (Nat.rec (motive:=fun _=>jA) ⟨fun n=>n.a0⟩ (fun d0 _=>(Nat.rec (motive:=fun _=>jA) ⟨fun n=>n.a1⟩ (fun d1 _=>(Nat.rec (motive:=fun _=>jA) ⟨fun n=>n.a2⟩ (fun d2 _=>(Nat.rec (motive:=fun _=>jA) ⟨fun n=>n.a3⟩ (fun d3 _=>(Nat.rec (motive:=fun _=>jA) ⟨fun n=>n.a4⟩ (fun d4 _=>(Nat.rec (motive:=fun _=>jA) ⟨fun n=>n.a5⟩ (fun d5 _=>(Nat.rec (motive:=fun _=>jA) ⟨fun n=>n.a6⟩ (fun d6 _=>(Nat.rec (motive:=fun _=>jA) ⟨fun n=>n.a7⟩ (fun d7 _=>(Nat.rec (motive:=fun _=>jA) ⟨fun n=>n.a8⟩ (fun d8 _=>(Nat.rec (motive:=fun _=>jA) ⟨fun n=>n.a9⟩ (fun d9 _=>(Nat.rec (motive:=fun _=>jA) ⟨fun n=>n.aY⟩ (fun d10 _=>(Nat.rec (motive:=fun _=>jA) ⟨fun n=>n.aZ⟩ (fun d11 _=>(Nat.rec (motive:=fun _=>jA) ⟨fun n=>n.a12⟩ (fun d12 _=>(Nat.rec (motive:=fun _=>jA) ⟨fun n=>n.bf⟩ (fun d13 _=>(Nat.rec (motive:=fun _=>jA) ⟨fun n=>n.bg⟩ (fun _ _=>⟨fun n=>n.bn⟩) d13)) d12)) d11)) d10)) d9)) d8)) d7)) d6)) d5)) d4)) d3)) d2)) d1)) d0)) d)
def fF.sZ (d:Nat):jB:=
 (Nat.rec (motive:=fun _=>jB) ⟨fun b n=>fF.rec (motive:=fun _=>Option Value→fF) (fun _ a1 a2 a3 a4 a5 a6 a7 a8 a9 aY aZ a12 bf bg bn b=>⟨b,a1,a2,a3,a4,a5,a6,a7,a8,a9,aY,aZ,a12,bf,bg,bn⟩) n b⟩ (fun d0 _=>(Nat.rec (motive:=fun _=>jB) ⟨fun b n=>fF.rec (motive:=fun _=>Option Value→fF) (fun a0 _ a2 a3 a4 a5 a6 a7 a8 a9 aY aZ a12 bf bg bn b=>⟨a0,b,a2,a3,a4,a5,a6,a7,a8,a9,aY,aZ,a12,bf,bg,bn⟩) n b⟩ (fun d1 _=>(Nat.rec (motive:=fun _=>jB) ⟨fun b n=>fF.rec (motive:=fun _=>Option Value→fF) (fun a0 a1 _ a3 a4 a5 a6 a7 a8 a9 aY aZ a12 bf bg bn b=>⟨a0,a1,b,a3,a4,a5,a6,a7,a8,a9,aY,aZ,a12,bf,bg,bn⟩) n b⟩ (fun d2 _=>(Nat.rec (motive:=fun _=>jB) ⟨fun b n=>fF.rec (motive:=fun _=>Option Value→fF) (fun a0 a1 a2 _ a4 a5 a6 a7 a8 a9 aY aZ a12 bf bg bn b=>⟨a0,a1,a2,b,a4,a5,a6,a7,a8,a9,aY,aZ,a12,bf,bg,bn⟩) n b⟩ (fun d3 _=>(Nat.rec (motive:=fun _=>jB) ⟨fun b n=>fF.rec (motive:=fun _=>Option Value→fF) (fun a0 a1 a2 a3 _ a5 a6 a7 a8 a9 aY aZ a12 bf bg bn b=>⟨a0,a1,a2,a3,b,a5,a6,a7,a8,a9,aY,aZ,a12,bf,bg,bn⟩) n b⟩ (fun d4 _=>(Nat.rec (motive:=fun _=>jB) ⟨fun b n=>fF.rec (motive:=fun _=>Option Value→fF) (fun a0 a1 a2 a3 a4 _ a6 a7 a8 a9 aY aZ a12 bf bg bn b=>⟨a0,a1,a2,a3,a4,b,a6,a7,a8,a9,aY,aZ,a12,bf,bg,bn⟩) n b⟩ (fun d5 _=>(Nat.rec (motive:=fun _=>jB) ⟨fun b n=>fF.rec (motive:=fun _=>Option Value→fF) (fun a0 a1 a2 a3 a4 a5 _ a7 a8 a9 aY aZ a12 bf bg bn b=>⟨a0,a1,a2,a3,a4,a5,b,a7,a8,a9,aY,aZ,a12,bf,bg,bn⟩) n b⟩ (fun d6 _=>(Nat.rec (motive:=fun _=>jB) ⟨fun b n=>fF.rec (motive:=fun _=>Option Value→fF) (fun a0 a1 a2 a3 a4 a5 a6 _ a8 a9 aY aZ a12 bf bg bn b=>⟨a0,a1,a2,a3,a4,a5,a6,b,a8,a9,aY,aZ,a12,bf,bg,bn⟩) n b⟩ (fun d7 _=>(Nat.rec (motive:=fun _=>jB) ⟨fun b n=>fF.rec (motive:=fun _=>Option Value→fF) (fun a0 a1 a2 a3 a4 a5 a6 a7 _ a9 aY aZ a12 bf bg bn b=>⟨a0,a1,a2,a3,a4,a5,a6,a7,b,a9,aY,aZ,a12,bf,bg,bn⟩) n b⟩ (fun d8 _=>(Nat.rec (motive:=fun _=>jB) ⟨fun b n=>fF.rec (motive:=fun _=>Option Value→fF) (fun a0 a1 a2 a3 a4 a5 a6 a7 a8 _ aY aZ a12 bf bg bn b=>⟨a0,a1,a2,a3,a4,a5,a6,a7,a8,b,aY,aZ,a12,bf,bg,bn⟩) n b⟩ (fun d9 _=>(Nat.rec (motive:=fun _=>jB) ⟨fun b n=>fF.rec (motive:=fun _=>Option Value→fF) (fun a0 a1 a2 a3 a4 a5 a6 a7 a8 a9 _ aZ a12 bf bg bn b=>⟨a0,a1,a2,a3,a4,a5,a6,a7,a8,a9,b,aZ,a12,bf,bg,bn⟩) n b⟩ (fun d10 _=>(Nat.rec (motive:=fun _=>jB) ⟨fun b n=>fF.rec (motive:=fun _=>Option Value→fF) (fun a0 a1 a2 a3 a4 a5 a6 a7 a8 a9 aY _ a12 bf bg bn b=>⟨a0,a1,a2,a3,a4,a5,a6,a7,a8,a9,aY,b,a12,bf,bg,bn⟩) n b⟩ (fun d11 _=>(Nat.rec (motive:=fun _=>jB) ⟨fun b n=>fF.rec (motive:=fun _=>Option Value→fF) (fun a0 a1 a2 a3 a4 a5 a6 a7 a8 a9 aY aZ _ bf bg bn b=>⟨a0,a1,a2,a3,a4,a5,a6,a7,a8,a9,aY,aZ,b,bf,bg,bn⟩) n b⟩ (fun d12 _=>(Nat.rec (motive:=fun _=>jB) ⟨fun b n=>fF.rec (motive:=fun _=>Option Value→fF) (fun a0 a1 a2 a3 a4 a5 a6 a7 a8 a9 aY aZ a12 _ bg bn b=>⟨a0,a1,a2,a3,a4,a5,a6,a7,a8,a9,aY,aZ,a12,b,bg,bn⟩) n b⟩ (fun d13 _=>(Nat.rec (motive:=fun _=>jB) ⟨fun b n=>fF.rec (motive:=fun _=>Option Value→fF) (fun a0 a1 a2 a3 a4 a5 a6 a7 a8 a9 aY aZ a12 bf _ bn b=>⟨a0,a1,a2,a3,a4,a5,a6,a7,a8,a9,aY,aZ,a12,bf,b,bn⟩) n b⟩ (fun _ _=>⟨fun b n=>fF.rec (motive:=fun _=>Option Value→fF) (fun a0 a1 a2 a3 a4 a5 a6 a7 a8 a9 aY aZ a12 bf bg _ b=>⟨a0,a1,a2,a3,a4,a5,a6,a7,a8,a9,aY,aZ,a12,bf,bg,b⟩) n b⟩) d13)) d12)) d11)) d10)) d9)) d8)) d7)) d6)) d5)) d4)) d3)) d2)) d1)) d0)) d)
def fF.pX (d:Nat) (n:fF):Option Value:=(pE d).f n
def fF.put (d:Nat) (b:Option Value) (n:fF):fF:=(sZ d).f b n
def fF.rep (b:Option Value):fF:=⟨b,b,b,b,b,b,b,b,b,b,b,b,b,b,b,b⟩
theorem fF.kE {d d':Nat} (h:d<16) (h':d'<16) (b:Option Value) (n:fF):pX d (put d' b n)=if d=d' then b else pX d n:=by
 have k:=sixteen h
 have k':=sixteen h'
 clear h h'
 obtain ⟨a0,a1,a2,a3,a4,a5,a6,a7,a8,a9,aY,aZ,a12,bf,bg,bn⟩:=n
 rcases k with rfl|rfl|rfl|rfl|rfl|rfl|rfl|rfl|rfl|rfl|rfl|rfl|rfl|rfl|rfl|rfl<;>rcases k' with rfl|rfl|rfl|rfl|rfl|rfl|rfl|rfl|rfl|rfl|rfl|rfl|rfl|rfl|rfl|rfl<;>rfl
theorem fF.kF {d:Nat} (h:d<16) (b:Option Value):pX d (rep b)=b:=by
 have k:=sixteen h
 clear h
 rcases k with rfl|rfl|rfl|rfl|rfl|rfl|rfl|rfl|rfl|rfl|rfl|rfl|rfl|rfl|rfl|rfl<;>rfl
structure fB where
 a0:fF
 a1:fF
 a2:fF
 a3:fF
 a4:fF
 a5:fF
 a6:fF
 a7:fF
 a8:fF
 a9:fF
 aY:fF
 aZ:fF
 a12:fF
 bf:fF
 bg:fF
 bn:fF
structure jC where
 f:fB→fF
structure jD where
 f:fF→fB→fB
def fB.pE (d:Nat):jC:=
 (Nat.rec (motive:=fun _=>jC) ⟨fun n=>n.a0⟩ (fun d0 _=>(Nat.rec (motive:=fun _=>jC) ⟨fun n=>n.a1⟩ (fun d1 _=>(Nat.rec (motive:=fun _=>jC) ⟨fun n=>n.a2⟩ (fun d2 _=>(Nat.rec (motive:=fun _=>jC) ⟨fun n=>n.a3⟩ (fun d3 _=>(Nat.rec (motive:=fun _=>jC) ⟨fun n=>n.a4⟩ (fun d4 _=>(Nat.rec (motive:=fun _=>jC) ⟨fun n=>n.a5⟩ (fun d5 _=>(Nat.rec (motive:=fun _=>jC) ⟨fun n=>n.a6⟩ (fun d6 _=>(Nat.rec (motive:=fun _=>jC) ⟨fun n=>n.a7⟩ (fun d7 _=>(Nat.rec (motive:=fun _=>jC) ⟨fun n=>n.a8⟩ (fun d8 _=>(Nat.rec (motive:=fun _=>jC) ⟨fun n=>n.a9⟩ (fun d9 _=>(Nat.rec (motive:=fun _=>jC) ⟨fun n=>n.aY⟩ (fun d10 _=>(Nat.rec (motive:=fun _=>jC) ⟨fun n=>n.aZ⟩ (fun d11 _=>(Nat.rec (motive:=fun _=>jC) ⟨fun n=>n.a12⟩ (fun d12 _=>(Nat.rec (motive:=fun _=>jC) ⟨fun n=>n.bf⟩ (fun d13 _=>(Nat.rec (motive:=fun _=>jC) ⟨fun n=>n.bg⟩ (fun _ _=>⟨fun n=>n.bn⟩) d13)) d12)) d11)) d10)) d9)) d8)) d7)) d6)) d5)) d4)) d3)) d2)) d1)) d0)) d)
def fB.sZ (d:Nat):jD:=
 (Nat.rec (motive:=fun _=>jD) ⟨fun b n=>fB.rec (motive:=fun _=>fF→fB) (fun _ a1 a2 a3 a4 a5 a6 a7 a8 a9 aY aZ a12 bf bg bn b=>⟨b,a1,a2,a3,a4,a5,a6,a7,a8,a9,aY,aZ,a12,bf,bg,bn⟩) n b⟩ (fun d0 _=>(Nat.rec (motive:=fun _=>jD) ⟨fun b n=>fB.rec (motive:=fun _=>fF→fB) (fun a0 _ a2 a3 a4 a5 a6 a7 a8 a9 aY aZ a12 bf bg bn b=>⟨a0,b,a2,a3,a4,a5,a6,a7,a8,a9,aY,aZ,a12,bf,bg,bn⟩) n b⟩ (fun d1 _=>(Nat.rec (motive:=fun _=>jD) ⟨fun b n=>fB.rec (motive:=fun _=>fF→fB) (fun a0 a1 _ a3 a4 a5 a6 a7 a8 a9 aY aZ a12 bf bg bn b=>⟨a0,a1,b,a3,a4,a5,a6,a7,a8,a9,aY,aZ,a12,bf,bg,bn⟩) n b⟩ (fun d2 _=>(Nat.rec (motive:=fun _=>jD) ⟨fun b n=>fB.rec (motive:=fun _=>fF→fB) (fun a0 a1 a2 _ a4 a5 a6 a7 a8 a9 aY aZ a12 bf bg bn b=>⟨a0,a1,a2,b,a4,a5,a6,a7,a8,a9,aY,aZ,a12,bf,bg,bn⟩) n b⟩ (fun d3 _=>(Nat.rec (motive:=fun _=>jD) ⟨fun b n=>fB.rec (motive:=fun _=>fF→fB) (fun a0 a1 a2 a3 _ a5 a6 a7 a8 a9 aY aZ a12 bf bg bn b=>⟨a0,a1,a2,a3,b,a5,a6,a7,a8,a9,aY,aZ,a12,bf,bg,bn⟩) n b⟩ (fun d4 _=>(Nat.rec (motive:=fun _=>jD) ⟨fun b n=>fB.rec (motive:=fun _=>fF→fB) (fun a0 a1 a2 a3 a4 _ a6 a7 a8 a9 aY aZ a12 bf bg bn b=>⟨a0,a1,a2,a3,a4,b,a6,a7,a8,a9,aY,aZ,a12,bf,bg,bn⟩) n b⟩ (fun d5 _=>(Nat.rec (motive:=fun _=>jD) ⟨fun b n=>fB.rec (motive:=fun _=>fF→fB) (fun a0 a1 a2 a3 a4 a5 _ a7 a8 a9 aY aZ a12 bf bg bn b=>⟨a0,a1,a2,a3,a4,a5,b,a7,a8,a9,aY,aZ,a12,bf,bg,bn⟩) n b⟩ (fun d6 _=>(Nat.rec (motive:=fun _=>jD) ⟨fun b n=>fB.rec (motive:=fun _=>fF→fB) (fun a0 a1 a2 a3 a4 a5 a6 _ a8 a9 aY aZ a12 bf bg bn b=>⟨a0,a1,a2,a3,a4,a5,a6,b,a8,a9,aY,aZ,a12,bf,bg,bn⟩) n b⟩ (fun d7 _=>(Nat.rec (motive:=fun _=>jD) ⟨fun b n=>fB.rec (motive:=fun _=>fF→fB) (fun a0 a1 a2 a3 a4 a5 a6 a7 _ a9 aY aZ a12 bf bg bn b=>⟨a0,a1,a2,a3,a4,a5,a6,a7,b,a9,aY,aZ,a12,bf,bg,bn⟩) n b⟩ (fun d8 _=>(Nat.rec (motive:=fun _=>jD) ⟨fun b n=>fB.rec (motive:=fun _=>fF→fB) (fun a0 a1 a2 a3 a4 a5 a6 a7 a8 _ aY aZ a12 bf bg bn b=>⟨a0,a1,a2,a3,a4,a5,a6,a7,a8,b,aY,aZ,a12,bf,bg,bn⟩) n b⟩ (fun d9 _=>(Nat.rec (motive:=fun _=>jD) ⟨fun b n=>fB.rec (motive:=fun _=>fF→fB) (fun a0 a1 a2 a3 a4 a5 a6 a7 a8 a9 _ aZ a12 bf bg bn b=>⟨a0,a1,a2,a3,a4,a5,a6,a7,a8,a9,b,aZ,a12,bf,bg,bn⟩) n b⟩ (fun d10 _=>(Nat.rec (motive:=fun _=>jD) ⟨fun b n=>fB.rec (motive:=fun _=>fF→fB) (fun a0 a1 a2 a3 a4 a5 a6 a7 a8 a9 aY _ a12 bf bg bn b=>⟨a0,a1,a2,a3,a4,a5,a6,a7,a8,a9,aY,b,a12,bf,bg,bn⟩) n b⟩ (fun d11 _=>(Nat.rec (motive:=fun _=>jD) ⟨fun b n=>fB.rec (motive:=fun _=>fF→fB) (fun a0 a1 a2 a3 a4 a5 a6 a7 a8 a9 aY aZ _ bf bg bn b=>⟨a0,a1,a2,a3,a4,a5,a6,a7,a8,a9,aY,aZ,b,bf,bg,bn⟩) n b⟩ (fun d12 _=>(Nat.rec (motive:=fun _=>jD) ⟨fun b n=>fB.rec (motive:=fun _=>fF→fB) (fun a0 a1 a2 a3 a4 a5 a6 a7 a8 a9 aY aZ a12 _ bg bn b=>⟨a0,a1,a2,a3,a4,a5,a6,a7,a8,a9,aY,aZ,a12,b,bg,bn⟩) n b⟩ (fun d13 _=>(Nat.rec (motive:=fun _=>jD) ⟨fun b n=>fB.rec (motive:=fun _=>fF→fB) (fun a0 a1 a2 a3 a4 a5 a6 a7 a8 a9 aY aZ a12 bf _ bn b=>⟨a0,a1,a2,a3,a4,a5,a6,a7,a8,a9,aY,aZ,a12,bf,b,bn⟩) n b⟩ (fun _ _=>⟨fun b n=>fB.rec (motive:=fun _=>fF→fB) (fun a0 a1 a2 a3 a4 a5 a6 a7 a8 a9 aY aZ a12 bf bg _ b=>⟨a0,a1,a2,a3,a4,a5,a6,a7,a8,a9,aY,aZ,a12,bf,bg,b⟩) n b⟩) d13)) d12)) d11)) d10)) d9)) d8)) d7)) d6)) d5)) d4)) d3)) d2)) d1)) d0)) d)
def fB.pX (d:Nat) (n:fB):fF:=(pE d).f n
def fB.put (d:Nat) (b:fF) (n:fB):fB:=(sZ d).f b n
def fB.rep (b:fF):fB:=⟨b,b,b,b,b,b,b,b,b,b,b,b,b,b,b,b⟩
theorem fB.kE {d d':Nat} (h:d<16) (h':d'<16) (b:fF) (n:fB):pX d (put d' b n)=if d=d' then b else pX d n:=by
 have k:=sixteen h
 have k':=sixteen h'
 clear h h'
 obtain ⟨a0,a1,a2,a3,a4,a5,a6,a7,a8,a9,aY,aZ,a12,bf,bg,bn⟩:=n
 rcases k with rfl|rfl|rfl|rfl|rfl|rfl|rfl|rfl|rfl|rfl|rfl|rfl|rfl|rfl|rfl|rfl<;>rcases k' with rfl|rfl|rfl|rfl|rfl|rfl|rfl|rfl|rfl|rfl|rfl|rfl|rfl|rfl|rfl|rfl<;>rfl
theorem fB.kF {d:Nat} (h:d<16) (b:fF):pX d (rep b)=b:=by
 have k:=sixteen h
 clear h
 rcases k with rfl|rfl|rfl|rfl|rfl|rfl|rfl|rfl|rfl|rfl|rfl|rfl|rfl|rfl|rfl|rfl<;>rfl
structure kz where
 a0:fB
 a1:fB
 a2:fB
 a3:fB
 a4:fB
 a5:fB
 a6:fB
 a7:fB
 a8:fB
 a9:fB
 aY:fB
 aZ:fB
 a12:fB
 bf:fB
 bg:fB
 bn:fB
structure jE where
 f:kz→fB
structure jF where
 f:fB→kz→kz
def kz.pE (d:Nat):jE:=
 (Nat.rec (motive:=fun _=>jE) ⟨fun n=>n.a0⟩ (fun d0 _=>(Nat.rec (motive:=fun _=>jE) ⟨fun n=>n.a1⟩ (fun d1 _=>(Nat.rec (motive:=fun _=>jE) ⟨fun n=>n.a2⟩ (fun d2 _=>(Nat.rec (motive:=fun _=>jE) ⟨fun n=>n.a3⟩ (fun d3 _=>(Nat.rec (motive:=fun _=>jE) ⟨fun n=>n.a4⟩ (fun d4 _=>(Nat.rec (motive:=fun _=>jE) ⟨fun n=>n.a5⟩ (fun d5 _=>(Nat.rec (motive:=fun _=>jE) ⟨fun n=>n.a6⟩ (fun d6 _=>(Nat.rec (motive:=fun _=>jE) ⟨fun n=>n.a7⟩ (fun d7 _=>(Nat.rec (motive:=fun _=>jE) ⟨fun n=>n.a8⟩ (fun d8 _=>(Nat.rec (motive:=fun _=>jE) ⟨fun n=>n.a9⟩ (fun d9 _=>(Nat.rec (motive:=fun _=>jE) ⟨fun n=>n.aY⟩ (fun d10 _=>(Nat.rec (motive:=fun _=>jE) ⟨fun n=>n.aZ⟩ (fun d11 _=>(Nat.rec (motive:=fun _=>jE) ⟨fun n=>n.a12⟩ (fun d12 _=>(Nat.rec (motive:=fun _=>jE) ⟨fun n=>n.bf⟩ (fun d13 _=>(Nat.rec (motive:=fun _=>jE) ⟨fun n=>n.bg⟩ (fun _ _=>⟨fun n=>n.bn⟩) d13)) d12)) d11)) d10)) d9)) d8)) d7)) d6)) d5)) d4)) d3)) d2)) d1)) d0)) d)
def kz.sZ (d:Nat):jF:=
 (Nat.rec (motive:=fun _=>jF) ⟨fun b n=>kz.rec (motive:=fun _=>fB→kz) (fun _ a1 a2 a3 a4 a5 a6 a7 a8 a9 aY aZ a12 bf bg bn b=>⟨b,a1,a2,a3,a4,a5,a6,a7,a8,a9,aY,aZ,a12,bf,bg,bn⟩) n b⟩ (fun d0 _=>(Nat.rec (motive:=fun _=>jF) ⟨fun b n=>kz.rec (motive:=fun _=>fB→kz) (fun a0 _ a2 a3 a4 a5 a6 a7 a8 a9 aY aZ a12 bf bg bn b=>⟨a0,b,a2,a3,a4,a5,a6,a7,a8,a9,aY,aZ,a12,bf,bg,bn⟩) n b⟩ (fun d1 _=>(Nat.rec (motive:=fun _=>jF) ⟨fun b n=>kz.rec (motive:=fun _=>fB→kz) (fun a0 a1 _ a3 a4 a5 a6 a7 a8 a9 aY aZ a12 bf bg bn b=>⟨a0,a1,b,a3,a4,a5,a6,a7,a8,a9,aY,aZ,a12,bf,bg,bn⟩) n b⟩ (fun d2 _=>(Nat.rec (motive:=fun _=>jF) ⟨fun b n=>kz.rec (motive:=fun _=>fB→kz) (fun a0 a1 a2 _ a4 a5 a6 a7 a8 a9 aY aZ a12 bf bg bn b=>⟨a0,a1,a2,b,a4,a5,a6,a7,a8,a9,aY,aZ,a12,bf,bg,bn⟩) n b⟩ (fun d3 _=>(Nat.rec (motive:=fun _=>jF) ⟨fun b n=>kz.rec (motive:=fun _=>fB→kz) (fun a0 a1 a2 a3 _ a5 a6 a7 a8 a9 aY aZ a12 bf bg bn b=>⟨a0,a1,a2,a3,b,a5,a6,a7,a8,a9,aY,aZ,a12,bf,bg,bn⟩) n b⟩ (fun d4 _=>(Nat.rec (motive:=fun _=>jF) ⟨fun b n=>kz.rec (motive:=fun _=>fB→kz) (fun a0 a1 a2 a3 a4 _ a6 a7 a8 a9 aY aZ a12 bf bg bn b=>⟨a0,a1,a2,a3,a4,b,a6,a7,a8,a9,aY,aZ,a12,bf,bg,bn⟩) n b⟩ (fun d5 _=>(Nat.rec (motive:=fun _=>jF) ⟨fun b n=>kz.rec (motive:=fun _=>fB→kz) (fun a0 a1 a2 a3 a4 a5 _ a7 a8 a9 aY aZ a12 bf bg bn b=>⟨a0,a1,a2,a3,a4,a5,b,a7,a8,a9,aY,aZ,a12,bf,bg,bn⟩) n b⟩ (fun d6 _=>(Nat.rec (motive:=fun _=>jF) ⟨fun b n=>kz.rec (motive:=fun _=>fB→kz) (fun a0 a1 a2 a3 a4 a5 a6 _ a8 a9 aY aZ a12 bf bg bn b=>⟨a0,a1,a2,a3,a4,a5,a6,b,a8,a9,aY,aZ,a12,bf,bg,bn⟩) n b⟩ (fun d7 _=>(Nat.rec (motive:=fun _=>jF) ⟨fun b n=>kz.rec (motive:=fun _=>fB→kz) (fun a0 a1 a2 a3 a4 a5 a6 a7 _ a9 aY aZ a12 bf bg bn b=>⟨a0,a1,a2,a3,a4,a5,a6,a7,b,a9,aY,aZ,a12,bf,bg,bn⟩) n b⟩ (fun d8 _=>(Nat.rec (motive:=fun _=>jF) ⟨fun b n=>kz.rec (motive:=fun _=>fB→kz) (fun a0 a1 a2 a3 a4 a5 a6 a7 a8 _ aY aZ a12 bf bg bn b=>⟨a0,a1,a2,a3,a4,a5,a6,a7,a8,b,aY,aZ,a12,bf,bg,bn⟩) n b⟩ (fun d9 _=>(Nat.rec (motive:=fun _=>jF) ⟨fun b n=>kz.rec (motive:=fun _=>fB→kz) (fun a0 a1 a2 a3 a4 a5 a6 a7 a8 a9 _ aZ a12 bf bg bn b=>⟨a0,a1,a2,a3,a4,a5,a6,a7,a8,a9,b,aZ,a12,bf,bg,bn⟩) n b⟩ (fun d10 _=>(Nat.rec (motive:=fun _=>jF) ⟨fun b n=>kz.rec (motive:=fun _=>fB→kz) (fun a0 a1 a2 a3 a4 a5 a6 a7 a8 a9 aY _ a12 bf bg bn b=>⟨a0,a1,a2,a3,a4,a5,a6,a7,a8,a9,aY,b,a12,bf,bg,bn⟩) n b⟩ (fun d11 _=>(Nat.rec (motive:=fun _=>jF) ⟨fun b n=>kz.rec (motive:=fun _=>fB→kz) (fun a0 a1 a2 a3 a4 a5 a6 a7 a8 a9 aY aZ _ bf bg bn b=>⟨a0,a1,a2,a3,a4,a5,a6,a7,a8,a9,aY,aZ,b,bf,bg,bn⟩) n b⟩ (fun d12 _=>(Nat.rec (motive:=fun _=>jF) ⟨fun b n=>kz.rec (motive:=fun _=>fB→kz) (fun a0 a1 a2 a3 a4 a5 a6 a7 a8 a9 aY aZ a12 _ bg bn b=>⟨a0,a1,a2,a3,a4,a5,a6,a7,a8,a9,aY,aZ,a12,b,bg,bn⟩) n b⟩ (fun d13 _=>(Nat.rec (motive:=fun _=>jF) ⟨fun b n=>kz.rec (motive:=fun _=>fB→kz) (fun a0 a1 a2 a3 a4 a5 a6 a7 a8 a9 aY aZ a12 bf _ bn b=>⟨a0,a1,a2,a3,a4,a5,a6,a7,a8,a9,aY,aZ,a12,bf,b,bn⟩) n b⟩ (fun _ _=>⟨fun b n=>kz.rec (motive:=fun _=>fB→kz) (fun a0 a1 a2 a3 a4 a5 a6 a7 a8 a9 aY aZ a12 bf bg _ b=>⟨a0,a1,a2,a3,a4,a5,a6,a7,a8,a9,aY,aZ,a12,bf,bg,b⟩) n b⟩) d13)) d12)) d11)) d10)) d9)) d8)) d7)) d6)) d5)) d4)) d3)) d2)) d1)) d0)) d)
def kz.pX (d:Nat) (n:kz):fB:=(pE d).f n
def kz.put (d:Nat) (b:fB) (n:kz):kz:=(sZ d).f b n
def kz.rep (b:fB):kz:=⟨b,b,b,b,b,b,b,b,b,b,b,b,b,b,b,b⟩
theorem kz.kE {d d':Nat} (h:d<16) (h':d'<16) (b:fB) (n:kz):pX d (put d' b n)=if d=d' then b else pX d n:=by
 have k:=sixteen h
 have k':=sixteen h'
 clear h h'
 obtain ⟨a0,a1,a2,a3,a4,a5,a6,a7,a8,a9,aY,aZ,a12,bf,bg,bn⟩:=n
 rcases k with rfl|rfl|rfl|rfl|rfl|rfl|rfl|rfl|rfl|rfl|rfl|rfl|rfl|rfl|rfl|rfl<;>rcases k' with rfl|rfl|rfl|rfl|rfl|rfl|rfl|rfl|rfl|rfl|rfl|rfl|rfl|rfl|rfl|rfl<;>rfl
theorem kz.kF {d:Nat} (h:d<16) (b:fB):pX d (rep b)=b:=by
 have k:=sixteen h
 clear h
 rcases k with rfl|rfl|rfl|rfl|rfl|rfl|rfl|rfl|rfl|rfl|rfl|rfl|rfl|rfl|rfl|rfl<;>rfl
structure TV where
 lo:kz
 hi:BT Value
structure abE where
 f:TV→Option Value
structure abF where
 f:Option Value→TV→TV
def TV.e:TV:=⟨kz.rep (fB.rep (fF.rep none)),.e⟩
def TV.KZ (k:Nat):abE:=
 Bool.rec (motive:=fun _=>abE) ⟨fun t=>BT.vU (way k) t.hi⟩ ⟨fun t=>(fF.pE (Nat.mod k 16)).f ((fB.pE (Nat.mod (Nat.div k 16) 16)).f ((kz.pE (Nat.div k 256)).f t.lo))⟩ (Nat.blt k 4096)
def TV.acs (y z:Nat) (v:Option Value) (p:fB):fB:=(fB.sZ y).f ((fF.sZ z).f v ((fB.pE y).f p)) p
def TV.Iy (k:Nat):abF:=
 Bool.rec (motive:=fun _=>abF) ⟨fun v t=>TV.rec (motive:=fun _=>TV) (fun lo hi=>⟨lo,BT.FH v (way k) hi⟩) t⟩
  ⟨fun v t=>⟨(kz.sZ (Nat.div k 256)).f (TV.acs (Nat.mod (Nat.div k 16) 16) (Nat.mod k 16) v ((kz.pE (Nat.div k 256)).f t.lo)) t.lo,t.hi⟩⟩ (Nat.blt k 4096)
def TV.get (t:TV) (k:Nat):Option Value:=(TV.KZ k).f t
def TV.set (t:TV) (k:Nat) (v:Option Value):TV:=(TV.Iy k).f v t
theorem TV.nJ {k:Nat} (h:k<4096) (t:TV):t.get k=fF.pX (k%16) (fB.pX (k/16%16) (kz.pX (k/256) t.lo)):=by
 have:Nat.blt k 4096=true:=Nat.ble_eq_true_of_le h
 unfold TV.get TV.KZ;rw [this];rfl
theorem TV.nK {k:Nat} (h:¬k<4096) (t:TV):t.get k=BT.vU (way k) t.hi:=by
 have:Nat.blt k 4096=false:=by
  cases hb:Nat.blt k 4096 with
  |false=>rfl
  |true=>exact absurd (Nat.le_of_ble_eq_true hb) h
 unfold TV.get TV.KZ;rw [this]
theorem TV.Dc {k:Nat} (h:k<4096) (t:TV) (v:Option Value):t.set k v=⟨kz.put (k/256) (fB.put (k/16%16) (fF.put (k%16) v (fB.pX (k/16%16) (kz.pX (k/256) t.lo))) (kz.pX (k/256) t.lo)) t.lo,t.hi⟩:=by
 have:Nat.blt k 4096=true:=Nat.ble_eq_true_of_le h
 unfold TV.set TV.Iy;rw [this];rfl
theorem TV.De {k:Nat} (h:¬k<4096) (t:TV) (v:Option Value):t.set k v=⟨t.lo,BT.FH v (way k) t.hi⟩:=by
 have:Nat.blt k 4096=false:=by
  cases hb:Nat.blt k 4096 with
  |false=>rfl
  |true=>exact absurd (Nat.le_of_ble_eq_true hb) h
 unfold TV.set TV.Iy;rw [this]
theorem TV.fT (t:TV) (k j:Nat) (v:Option Value):(t.set k v).get j=if j=k then v else t.get j:=by
 by_cases hk:k<4096<;>by_cases hj:j<4096
 ·rw [TV.Dc hk,TV.nJ hj,TV.nJ hj,kz.kE (by omega) (by omega)]
  by_cases h1:j/256=k/256
  ·rw [if_pos h1,fB.kE (by omega) (by omega)]
   by_cases h2:j/16%16=k/16%16
   ·rw [if_pos h2,fF.kE (by omega) (by omega)]
    by_cases h3:j%16=k%16
    ·rw [if_pos h3,if_pos (by omega)]
    ·rw [if_neg h3,if_neg (by omega),h1,h2]
   ·rw [if_neg h2,if_neg (by omega),h1]
  ·rw [if_neg h1,if_neg (by omega)]
 ·rw [TV.Dc hk,TV.nK hj,TV.nK hj,if_neg (by omega)]
 ·rw [TV.De hk,TV.nJ hj,TV.nJ hj,if_neg (by omega)]
 ·rw [TV.De hk,TV.nK hj,TV.nK hj,BT.Gq]
  by_cases h:j=k
  ·subst h;simp
  ·rw [if_neg h,if_neg (fun e=>h (Re e))]
theorem TV.Gr (k:Nat):TV.e.get k=none:=by
 by_cases h:k<4096
 ·rw [TV.nJ h]
  show fF.pX (k%16) (fB.pX (k/16%16) (kz.pX (k/256) (kz.rep (fB.rep (fF.rep none)))))=none
  rw [kz.kF (by omega),fB.kF (by omega),fF.kF (by omega)]
 ·rw [TV.nK h];exact BT.wV _
inductive aJ where
 |cells (cs:List Value)
 |map (es:List MapEntry) (clock:Nat)
 |text (s:ByteArray) (pos:Nat)
 |walk (m:Option Nat) (since:Nat) (seen:List Nat) (stepped:Nat)
 |round (st:LoopState) (pend:Option Code) (tm:TV) (sz:Nat) (params:Array Tmp) (assign body:Code)
 |defs (ds:Bool)
structure bP where
 a0:Option aJ
 a1:Option aJ
 a2:Option aJ
 a3:Option aJ
 a4:Option aJ
 a5:Option aJ
 a6:Option aJ
 a7:Option aJ
 a8:Option aJ
 a9:Option aJ
 aY:Option aJ
 aZ:Option aJ
 a12:Option aJ
 bf:Option aJ
 bg:Option aJ
 bn:Option aJ
structure dJ where
 f:bP→Option aJ
structure dK where
 f:Option aJ→bP→bP
def bP.tq (d:Nat):dJ:=Bool.rec (motive:=fun _=>dJ) ⟨fun n=>n.a0⟩ ⟨fun n=>n.a1⟩ (Nat.ble 1 d)
def bP.tu (d:Nat):dJ:=Bool.rec (motive:=fun _=>dJ) ⟨fun n=>n.a2⟩ ⟨fun n=>n.a3⟩ (Nat.ble 3 d)
def bP.tC (d:Nat):dJ:=Bool.rec (motive:=fun _=>dJ) (bP.tq d) (bP.tu d) (Nat.ble 2 d)
def bP.tF (d:Nat):dJ:=Bool.rec (motive:=fun _=>dJ) ⟨fun n=>n.a4⟩ ⟨fun n=>n.a5⟩ (Nat.ble 5 d)
def bP.tH (d:Nat):dJ:=Bool.rec (motive:=fun _=>dJ) ⟨fun n=>n.a6⟩ ⟨fun n=>n.a7⟩ (Nat.ble 7 d)
def bP.tJ (d:Nat):dJ:=Bool.rec (motive:=fun _=>dJ) (bP.tF d) (bP.tH d) (Nat.ble 6 d)
def bP.tK (d:Nat):dJ:=Bool.rec (motive:=fun _=>dJ) (bP.tC d) (bP.tJ d) (Nat.ble 4 d)
def bP.pY (d:Nat):dJ:=Bool.rec (motive:=fun _=>dJ) ⟨fun n=>n.a8⟩ ⟨fun n=>n.a9⟩ (Nat.ble 9 d)
def bP.nL (d:Nat):dJ:=Bool.rec (motive:=fun _=>dJ) ⟨fun n=>n.aY⟩ ⟨fun n=>n.aZ⟩ (Nat.ble 11 d)
def bP.p8 (d:Nat):dJ:=Bool.rec (motive:=fun _=>dJ) (bP.pY d) (bP.nL d) (Nat.ble 10 d)
def bP.nM (d:Nat):dJ:=Bool.rec (motive:=fun _=>dJ) ⟨fun n=>n.a12⟩ ⟨fun n=>n.bf⟩ (Nat.ble 13 d)
def bP.nN (d:Nat):dJ:=Bool.rec (motive:=fun _=>dJ) ⟨fun n=>n.bg⟩ ⟨fun n=>n.bn⟩ (Nat.ble 15 d)
def bP.nO (d:Nat):dJ:=Bool.rec (motive:=fun _=>dJ) (bP.nM d) (bP.nN d) (Nat.ble 14 d)
def bP.p9 (d:Nat):dJ:=Bool.rec (motive:=fun _=>dJ) (bP.p8 d) (bP.nO d) (Nat.ble 12 d)
def bP.pE (d:Nat):dJ:=Bool.rec (motive:=fun _=>dJ) (bP.tK d) (bP.p9 d) (Nat.ble 8 d)
def bP.tL (d:Nat):dK:=Bool.rec (motive:=fun _=>dK) ⟨fun b n=>bP.rec (motive:=fun _=>Option aJ→bP) (fun _ a1 a2 a3 a4 a5 a6 a7 a8 a9 aY aZ a12 bf bg bn b=>⟨b,a1,a2,a3,a4,a5,a6,a7,a8,a9,aY,aZ,a12,bf,bg,bn⟩) n b⟩ ⟨fun b n=>bP.rec (motive:=fun _=>Option aJ→bP) (fun a0 _ a2 a3 a4 a5 a6 a7 a8 a9 aY aZ a12 bf bg bn b=>⟨a0,b,a2,a3,a4,a5,a6,a7,a8,a9,aY,aZ,a12,bf,bg,bn⟩) n b⟩ (Nat.ble 1 d)
def bP.tN (d:Nat):dK:=Bool.rec (motive:=fun _=>dK) ⟨fun b n=>bP.rec (motive:=fun _=>Option aJ→bP) (fun a0 a1 _ a3 a4 a5 a6 a7 a8 a9 aY aZ a12 bf bg bn b=>⟨a0,a1,b,a3,a4,a5,a6,a7,a8,a9,aY,aZ,a12,bf,bg,bn⟩) n b⟩ ⟨fun b n=>bP.rec (motive:=fun _=>Option aJ→bP) (fun a0 a1 a2 _ a4 a5 a6 a7 a8 a9 aY aZ a12 bf bg bn b=>⟨a0,a1,a2,b,a4,a5,a6,a7,a8,a9,aY,aZ,a12,bf,bg,bn⟩) n b⟩ (Nat.ble 3 d)
def bP.tO (d:Nat):dK:=Bool.rec (motive:=fun _=>dK) (bP.tL d) (bP.tN d) (Nat.ble 2 d)
def bP.tQ (d:Nat):dK:=Bool.rec (motive:=fun _=>dK) ⟨fun b n=>bP.rec (motive:=fun _=>Option aJ→bP) (fun a0 a1 a2 a3 _ a5 a6 a7 a8 a9 aY aZ a12 bf bg bn b=>⟨a0,a1,a2,a3,b,a5,a6,a7,a8,a9,aY,aZ,a12,bf,bg,bn⟩) n b⟩ ⟨fun b n=>bP.rec (motive:=fun _=>Option aJ→bP) (fun a0 a1 a2 a3 a4 _ a6 a7 a8 a9 aY aZ a12 bf bg bn b=>⟨a0,a1,a2,a3,a4,b,a6,a7,a8,a9,aY,aZ,a12,bf,bg,bn⟩) n b⟩ (Nat.ble 5 d)
def bP.tT (d:Nat):dK:=Bool.rec (motive:=fun _=>dK) ⟨fun b n=>bP.rec (motive:=fun _=>Option aJ→bP) (fun a0 a1 a2 a3 a4 a5 _ a7 a8 a9 aY aZ a12 bf bg bn b=>⟨a0,a1,a2,a3,a4,a5,b,a7,a8,a9,aY,aZ,a12,bf,bg,bn⟩) n b⟩ ⟨fun b n=>bP.rec (motive:=fun _=>Option aJ→bP) (fun a0 a1 a2 a3 a4 a5 a6 _ a8 a9 aY aZ a12 bf bg bn b=>⟨a0,a1,a2,a3,a4,a5,a6,b,a8,a9,aY,aZ,a12,bf,bg,bn⟩) n b⟩ (Nat.ble 7 d)
def bP.tV (d:Nat):dK:=Bool.rec (motive:=fun _=>dK) (bP.tQ d) (bP.tT d) (Nat.ble 6 d)
def bP.tX (d:Nat):dK:=Bool.rec (motive:=fun _=>dK) (bP.tO d) (bP.tV d) (Nat.ble 4 d)
def bP.qc (d:Nat):dK:=Bool.rec (motive:=fun _=>dK) ⟨fun b n=>bP.rec (motive:=fun _=>Option aJ→bP) (fun a0 a1 a2 a3 a4 a5 a6 a7 _ a9 aY aZ a12 bf bg bn b=>⟨a0,a1,a2,a3,a4,a5,a6,a7,b,a9,aY,aZ,a12,bf,bg,bn⟩) n b⟩ ⟨fun b n=>bP.rec (motive:=fun _=>Option aJ→bP) (fun a0 a1 a2 a3 a4 a5 a6 a7 a8 _ aY aZ a12 bf bg bn b=>⟨a0,a1,a2,a3,a4,a5,a6,a7,a8,b,aY,aZ,a12,bf,bg,bn⟩) n b⟩ (Nat.ble 9 d)
def bP.nP (d:Nat):dK:=Bool.rec (motive:=fun _=>dK) ⟨fun b n=>bP.rec (motive:=fun _=>Option aJ→bP) (fun a0 a1 a2 a3 a4 a5 a6 a7 a8 a9 _ aZ a12 bf bg bn b=>⟨a0,a1,a2,a3,a4,a5,a6,a7,a8,a9,b,aZ,a12,bf,bg,bn⟩) n b⟩ ⟨fun b n=>bP.rec (motive:=fun _=>Option aJ→bP) (fun a0 a1 a2 a3 a4 a5 a6 a7 a8 a9 aY _ a12 bf bg bn b=>⟨a0,a1,a2,a3,a4,a5,a6,a7,a8,a9,aY,b,a12,bf,bg,bn⟩) n b⟩ (Nat.ble 11 d)
def bP.qd (d:Nat):dK:=Bool.rec (motive:=fun _=>dK) (bP.qc d) (bP.nP d) (Nat.ble 10 d)
def bP.nQ (d:Nat):dK:=Bool.rec (motive:=fun _=>dK) ⟨fun b n=>bP.rec (motive:=fun _=>Option aJ→bP) (fun a0 a1 a2 a3 a4 a5 a6 a7 a8 a9 aY aZ _ bf bg bn b=>⟨a0,a1,a2,a3,a4,a5,a6,a7,a8,a9,aY,aZ,b,bf,bg,bn⟩) n b⟩ ⟨fun b n=>bP.rec (motive:=fun _=>Option aJ→bP) (fun a0 a1 a2 a3 a4 a5 a6 a7 a8 a9 aY aZ a12 _ bg bn b=>⟨a0,a1,a2,a3,a4,a5,a6,a7,a8,a9,aY,aZ,a12,b,bg,bn⟩) n b⟩ (Nat.ble 13 d)
def bP.nR (d:Nat):dK:=Bool.rec (motive:=fun _=>dK) ⟨fun b n=>bP.rec (motive:=fun _=>Option aJ→bP) (fun a0 a1 a2 a3 a4 a5 a6 a7 a8 a9 aY aZ a12 bf _ bn b=>⟨a0,a1,a2,a3,a4,a5,a6,a7,a8,a9,aY,aZ,a12,bf,b,bn⟩) n b⟩ ⟨fun b n=>bP.rec (motive:=fun _=>Option aJ→bP) (fun a0 a1 a2 a3 a4 a5 a6 a7 a8 a9 aY aZ a12 bf bg _ b=>⟨a0,a1,a2,a3,a4,a5,a6,a7,a8,a9,aY,aZ,a12,bf,bg,b⟩) n b⟩ (Nat.ble 15 d)
def bP.nS (d:Nat):dK:=Bool.rec (motive:=fun _=>dK) (bP.nQ d) (bP.nR d) (Nat.ble 14 d)
def bP.qf (d:Nat):dK:=Bool.rec (motive:=fun _=>dK) (bP.qd d) (bP.nS d) (Nat.ble 12 d)
def bP.sZ (d:Nat):dK:=Bool.rec (motive:=fun _=>dK) (bP.tX d) (bP.qf d) (Nat.ble 8 d)
def bP.pX (d:Nat) (n:bP):Option aJ:=(pE d).f n
def bP.put (d:Nat) (b:Option aJ) (n:bP):bP:=(sZ d).f b n
def bP.rep (b:Option aJ):bP:=⟨b,b,b,b,b,b,b,b,b,b,b,b,b,b,b,b⟩
theorem bP.kE {d d':Nat} (h:d<16) (h':d'<16) (b:Option aJ) (n:bP):pX d (put d' b n)=if d=d' then b else pX d n:=by
 have k:=sixteen h
 have k':=sixteen h'
 clear h h'
 obtain ⟨a0,a1,a2,a3,a4,a5,a6,a7,a8,a9,aY,aZ,a12,bf,bg,bn⟩:=n
 rcases k with rfl|rfl|rfl|rfl|rfl|rfl|rfl|rfl|rfl|rfl|rfl|rfl|rfl|rfl|rfl|rfl<;>rcases k' with rfl|rfl|rfl|rfl|rfl|rfl|rfl|rfl|rfl|rfl|rfl|rfl|rfl|rfl|rfl|rfl<;>rfl
theorem bP.kF {d:Nat} (h:d<16) (b:Option aJ):pX d (rep b)=b:=by
 have k:=sixteen h
 clear h
 rcases k with rfl|rfl|rfl|rfl|rfl|rfl|rfl|rfl|rfl|rfl|rfl|rfl|rfl|rfl|rfl|rfl<;>rfl
structure bO where
 a0:bP
 a1:bP
 a2:bP
 a3:bP
 a4:bP
 a5:bP
 a6:bP
 a7:bP
 a8:bP
 a9:bP
 aY:bP
 aZ:bP
 a12:bP
 bf:bP
 bg:bP
 bn:bP
structure dL where
 f:bO→bP
structure dM where
 f:bP→bO→bO
def bO.tq (d:Nat):dL:=Bool.rec (motive:=fun _=>dL) ⟨fun n=>n.a0⟩ ⟨fun n=>n.a1⟩ (Nat.ble 1 d)
def bO.tu (d:Nat):dL:=Bool.rec (motive:=fun _=>dL) ⟨fun n=>n.a2⟩ ⟨fun n=>n.a3⟩ (Nat.ble 3 d)
def bO.tC (d:Nat):dL:=Bool.rec (motive:=fun _=>dL) (bO.tq d) (bO.tu d) (Nat.ble 2 d)
def bO.tF (d:Nat):dL:=Bool.rec (motive:=fun _=>dL) ⟨fun n=>n.a4⟩ ⟨fun n=>n.a5⟩ (Nat.ble 5 d)
def bO.tH (d:Nat):dL:=Bool.rec (motive:=fun _=>dL) ⟨fun n=>n.a6⟩ ⟨fun n=>n.a7⟩ (Nat.ble 7 d)
def bO.tJ (d:Nat):dL:=Bool.rec (motive:=fun _=>dL) (bO.tF d) (bO.tH d) (Nat.ble 6 d)
def bO.tK (d:Nat):dL:=Bool.rec (motive:=fun _=>dL) (bO.tC d) (bO.tJ d) (Nat.ble 4 d)
def bO.pY (d:Nat):dL:=Bool.rec (motive:=fun _=>dL) ⟨fun n=>n.a8⟩ ⟨fun n=>n.a9⟩ (Nat.ble 9 d)
def bO.nL (d:Nat):dL:=Bool.rec (motive:=fun _=>dL) ⟨fun n=>n.aY⟩ ⟨fun n=>n.aZ⟩ (Nat.ble 11 d)
def bO.p8 (d:Nat):dL:=Bool.rec (motive:=fun _=>dL) (bO.pY d) (bO.nL d) (Nat.ble 10 d)
def bO.nM (d:Nat):dL:=Bool.rec (motive:=fun _=>dL) ⟨fun n=>n.a12⟩ ⟨fun n=>n.bf⟩ (Nat.ble 13 d)
def bO.nN (d:Nat):dL:=Bool.rec (motive:=fun _=>dL) ⟨fun n=>n.bg⟩ ⟨fun n=>n.bn⟩ (Nat.ble 15 d)
def bO.nO (d:Nat):dL:=Bool.rec (motive:=fun _=>dL) (bO.nM d) (bO.nN d) (Nat.ble 14 d)
def bO.p9 (d:Nat):dL:=Bool.rec (motive:=fun _=>dL) (bO.p8 d) (bO.nO d) (Nat.ble 12 d)
def bO.pE (d:Nat):dL:=Bool.rec (motive:=fun _=>dL) (bO.tK d) (bO.p9 d) (Nat.ble 8 d)
def bO.tL (d:Nat):dM:=Bool.rec (motive:=fun _=>dM) ⟨fun b n=>bO.rec (motive:=fun _=>bP→bO) (fun _ a1 a2 a3 a4 a5 a6 a7 a8 a9 aY aZ a12 bf bg bn b=>⟨b,a1,a2,a3,a4,a5,a6,a7,a8,a9,aY,aZ,a12,bf,bg,bn⟩) n b⟩ ⟨fun b n=>bO.rec (motive:=fun _=>bP→bO) (fun a0 _ a2 a3 a4 a5 a6 a7 a8 a9 aY aZ a12 bf bg bn b=>⟨a0,b,a2,a3,a4,a5,a6,a7,a8,a9,aY,aZ,a12,bf,bg,bn⟩) n b⟩ (Nat.ble 1 d)
def bO.tN (d:Nat):dM:=Bool.rec (motive:=fun _=>dM) ⟨fun b n=>bO.rec (motive:=fun _=>bP→bO) (fun a0 a1 _ a3 a4 a5 a6 a7 a8 a9 aY aZ a12 bf bg bn b=>⟨a0,a1,b,a3,a4,a5,a6,a7,a8,a9,aY,aZ,a12,bf,bg,bn⟩) n b⟩ ⟨fun b n=>bO.rec (motive:=fun _=>bP→bO) (fun a0 a1 a2 _ a4 a5 a6 a7 a8 a9 aY aZ a12 bf bg bn b=>⟨a0,a1,a2,b,a4,a5,a6,a7,a8,a9,aY,aZ,a12,bf,bg,bn⟩) n b⟩ (Nat.ble 3 d)
def bO.tO (d:Nat):dM:=Bool.rec (motive:=fun _=>dM) (bO.tL d) (bO.tN d) (Nat.ble 2 d)
def bO.tQ (d:Nat):dM:=Bool.rec (motive:=fun _=>dM) ⟨fun b n=>bO.rec (motive:=fun _=>bP→bO) (fun a0 a1 a2 a3 _ a5 a6 a7 a8 a9 aY aZ a12 bf bg bn b=>⟨a0,a1,a2,a3,b,a5,a6,a7,a8,a9,aY,aZ,a12,bf,bg,bn⟩) n b⟩ ⟨fun b n=>bO.rec (motive:=fun _=>bP→bO) (fun a0 a1 a2 a3 a4 _ a6 a7 a8 a9 aY aZ a12 bf bg bn b=>⟨a0,a1,a2,a3,a4,b,a6,a7,a8,a9,aY,aZ,a12,bf,bg,bn⟩) n b⟩ (Nat.ble 5 d)
def bO.tT (d:Nat):dM:=Bool.rec (motive:=fun _=>dM) ⟨fun b n=>bO.rec (motive:=fun _=>bP→bO) (fun a0 a1 a2 a3 a4 a5 _ a7 a8 a9 aY aZ a12 bf bg bn b=>⟨a0,a1,a2,a3,a4,a5,b,a7,a8,a9,aY,aZ,a12,bf,bg,bn⟩) n b⟩ ⟨fun b n=>bO.rec (motive:=fun _=>bP→bO) (fun a0 a1 a2 a3 a4 a5 a6 _ a8 a9 aY aZ a12 bf bg bn b=>⟨a0,a1,a2,a3,a4,a5,a6,b,a8,a9,aY,aZ,a12,bf,bg,bn⟩) n b⟩ (Nat.ble 7 d)
def bO.tV (d:Nat):dM:=Bool.rec (motive:=fun _=>dM) (bO.tQ d) (bO.tT d) (Nat.ble 6 d)
def bO.tX (d:Nat):dM:=Bool.rec (motive:=fun _=>dM) (bO.tO d) (bO.tV d) (Nat.ble 4 d)
def bO.qc (d:Nat):dM:=Bool.rec (motive:=fun _=>dM) ⟨fun b n=>bO.rec (motive:=fun _=>bP→bO) (fun a0 a1 a2 a3 a4 a5 a6 a7 _ a9 aY aZ a12 bf bg bn b=>⟨a0,a1,a2,a3,a4,a5,a6,a7,b,a9,aY,aZ,a12,bf,bg,bn⟩) n b⟩ ⟨fun b n=>bO.rec (motive:=fun _=>bP→bO) (fun a0 a1 a2 a3 a4 a5 a6 a7 a8 _ aY aZ a12 bf bg bn b=>⟨a0,a1,a2,a3,a4,a5,a6,a7,a8,b,aY,aZ,a12,bf,bg,bn⟩) n b⟩ (Nat.ble 9 d)
def bO.nP (d:Nat):dM:=Bool.rec (motive:=fun _=>dM) ⟨fun b n=>bO.rec (motive:=fun _=>bP→bO) (fun a0 a1 a2 a3 a4 a5 a6 a7 a8 a9 _ aZ a12 bf bg bn b=>⟨a0,a1,a2,a3,a4,a5,a6,a7,a8,a9,b,aZ,a12,bf,bg,bn⟩) n b⟩ ⟨fun b n=>bO.rec (motive:=fun _=>bP→bO) (fun a0 a1 a2 a3 a4 a5 a6 a7 a8 a9 aY _ a12 bf bg bn b=>⟨a0,a1,a2,a3,a4,a5,a6,a7,a8,a9,aY,b,a12,bf,bg,bn⟩) n b⟩ (Nat.ble 11 d)
def bO.qd (d:Nat):dM:=Bool.rec (motive:=fun _=>dM) (bO.qc d) (bO.nP d) (Nat.ble 10 d)
def bO.nQ (d:Nat):dM:=Bool.rec (motive:=fun _=>dM) ⟨fun b n=>bO.rec (motive:=fun _=>bP→bO) (fun a0 a1 a2 a3 a4 a5 a6 a7 a8 a9 aY aZ _ bf bg bn b=>⟨a0,a1,a2,a3,a4,a5,a6,a7,a8,a9,aY,aZ,b,bf,bg,bn⟩) n b⟩ ⟨fun b n=>bO.rec (motive:=fun _=>bP→bO) (fun a0 a1 a2 a3 a4 a5 a6 a7 a8 a9 aY aZ a12 _ bg bn b=>⟨a0,a1,a2,a3,a4,a5,a6,a7,a8,a9,aY,aZ,a12,b,bg,bn⟩) n b⟩ (Nat.ble 13 d)
def bO.nR (d:Nat):dM:=Bool.rec (motive:=fun _=>dM) ⟨fun b n=>bO.rec (motive:=fun _=>bP→bO) (fun a0 a1 a2 a3 a4 a5 a6 a7 a8 a9 aY aZ a12 bf _ bn b=>⟨a0,a1,a2,a3,a4,a5,a6,a7,a8,a9,aY,aZ,a12,bf,b,bn⟩) n b⟩ ⟨fun b n=>bO.rec (motive:=fun _=>bP→bO) (fun a0 a1 a2 a3 a4 a5 a6 a7 a8 a9 aY aZ a12 bf bg _ b=>⟨a0,a1,a2,a3,a4,a5,a6,a7,a8,a9,aY,aZ,a12,bf,bg,b⟩) n b⟩ (Nat.ble 15 d)
def bO.nS (d:Nat):dM:=Bool.rec (motive:=fun _=>dM) (bO.nQ d) (bO.nR d) (Nat.ble 14 d)
def bO.qf (d:Nat):dM:=Bool.rec (motive:=fun _=>dM) (bO.qd d) (bO.nS d) (Nat.ble 12 d)
def bO.sZ (d:Nat):dM:=Bool.rec (motive:=fun _=>dM) (bO.tX d) (bO.qf d) (Nat.ble 8 d)
def bO.pX (d:Nat) (n:bO):bP:=(pE d).f n
def bO.put (d:Nat) (b:bP) (n:bO):bO:=(sZ d).f b n
def bO.rep (b:bP):bO:=⟨b,b,b,b,b,b,b,b,b,b,b,b,b,b,b,b⟩
theorem bO.kE {d d':Nat} (h:d<16) (h':d'<16) (b:bP) (n:bO):pX d (put d' b n)=if d=d' then b else pX d n:=by
 have k:=sixteen h
 have k':=sixteen h'
 clear h h'
 obtain ⟨a0,a1,a2,a3,a4,a5,a6,a7,a8,a9,aY,aZ,a12,bf,bg,bn⟩:=n
 rcases k with rfl|rfl|rfl|rfl|rfl|rfl|rfl|rfl|rfl|rfl|rfl|rfl|rfl|rfl|rfl|rfl<;>rcases k' with rfl|rfl|rfl|rfl|rfl|rfl|rfl|rfl|rfl|rfl|rfl|rfl|rfl|rfl|rfl|rfl<;>rfl
theorem bO.kF {d:Nat} (h:d<16) (b:bP):pX d (rep b)=b:=by
 have k:=sixteen h
 clear h
 rcases k with rfl|rfl|rfl|rfl|rfl|rfl|rfl|rfl|rfl|rfl|rfl|rfl|rfl|rfl|rfl|rfl<;>rfl
structure dX where
 a0:bO
 a1:bO
 a2:bO
 a3:bO
 a4:bO
 a5:bO
 a6:bO
 a7:bO
 a8:bO
 a9:bO
 aY:bO
 aZ:bO
 a12:bO
 bf:bO
 bg:bO
 bn:bO
structure dN where
 f:dX→bO
structure dO where
 f:bO→dX→dX
def dX.tq (d:Nat):dN:=Bool.rec (motive:=fun _=>dN) ⟨fun n=>n.a0⟩ ⟨fun n=>n.a1⟩ (Nat.ble 1 d)
def dX.tu (d:Nat):dN:=Bool.rec (motive:=fun _=>dN) ⟨fun n=>n.a2⟩ ⟨fun n=>n.a3⟩ (Nat.ble 3 d)
def dX.tC (d:Nat):dN:=Bool.rec (motive:=fun _=>dN) (dX.tq d) (dX.tu d) (Nat.ble 2 d)
def dX.tF (d:Nat):dN:=Bool.rec (motive:=fun _=>dN) ⟨fun n=>n.a4⟩ ⟨fun n=>n.a5⟩ (Nat.ble 5 d)
def dX.tH (d:Nat):dN:=Bool.rec (motive:=fun _=>dN) ⟨fun n=>n.a6⟩ ⟨fun n=>n.a7⟩ (Nat.ble 7 d)
def dX.tJ (d:Nat):dN:=Bool.rec (motive:=fun _=>dN) (dX.tF d) (dX.tH d) (Nat.ble 6 d)
def dX.tK (d:Nat):dN:=Bool.rec (motive:=fun _=>dN) (dX.tC d) (dX.tJ d) (Nat.ble 4 d)
def dX.pY (d:Nat):dN:=Bool.rec (motive:=fun _=>dN) ⟨fun n=>n.a8⟩ ⟨fun n=>n.a9⟩ (Nat.ble 9 d)
def dX.nL (d:Nat):dN:=Bool.rec (motive:=fun _=>dN) ⟨fun n=>n.aY⟩ ⟨fun n=>n.aZ⟩ (Nat.ble 11 d)
def dX.p8 (d:Nat):dN:=Bool.rec (motive:=fun _=>dN) (dX.pY d) (dX.nL d) (Nat.ble 10 d)
def dX.nM (d:Nat):dN:=Bool.rec (motive:=fun _=>dN) ⟨fun n=>n.a12⟩ ⟨fun n=>n.bf⟩ (Nat.ble 13 d)
def dX.nN (d:Nat):dN:=Bool.rec (motive:=fun _=>dN) ⟨fun n=>n.bg⟩ ⟨fun n=>n.bn⟩ (Nat.ble 15 d)
def dX.nO (d:Nat):dN:=Bool.rec (motive:=fun _=>dN) (dX.nM d) (dX.nN d) (Nat.ble 14 d)
def dX.p9 (d:Nat):dN:=Bool.rec (motive:=fun _=>dN) (dX.p8 d) (dX.nO d) (Nat.ble 12 d)
def dX.pE (d:Nat):dN:=Bool.rec (motive:=fun _=>dN) (dX.tK d) (dX.p9 d) (Nat.ble 8 d)
def dX.tL (d:Nat):dO:=Bool.rec (motive:=fun _=>dO) ⟨fun b n=>dX.rec (motive:=fun _=>bO→dX) (fun _ a1 a2 a3 a4 a5 a6 a7 a8 a9 aY aZ a12 bf bg bn b=>⟨b,a1,a2,a3,a4,a5,a6,a7,a8,a9,aY,aZ,a12,bf,bg,bn⟩) n b⟩ ⟨fun b n=>dX.rec (motive:=fun _=>bO→dX) (fun a0 _ a2 a3 a4 a5 a6 a7 a8 a9 aY aZ a12 bf bg bn b=>⟨a0,b,a2,a3,a4,a5,a6,a7,a8,a9,aY,aZ,a12,bf,bg,bn⟩) n b⟩ (Nat.ble 1 d)
def dX.tN (d:Nat):dO:=Bool.rec (motive:=fun _=>dO) ⟨fun b n=>dX.rec (motive:=fun _=>bO→dX) (fun a0 a1 _ a3 a4 a5 a6 a7 a8 a9 aY aZ a12 bf bg bn b=>⟨a0,a1,b,a3,a4,a5,a6,a7,a8,a9,aY,aZ,a12,bf,bg,bn⟩) n b⟩ ⟨fun b n=>dX.rec (motive:=fun _=>bO→dX) (fun a0 a1 a2 _ a4 a5 a6 a7 a8 a9 aY aZ a12 bf bg bn b=>⟨a0,a1,a2,b,a4,a5,a6,a7,a8,a9,aY,aZ,a12,bf,bg,bn⟩) n b⟩ (Nat.ble 3 d)
def dX.tO (d:Nat):dO:=Bool.rec (motive:=fun _=>dO) (dX.tL d) (dX.tN d) (Nat.ble 2 d)
def dX.tQ (d:Nat):dO:=Bool.rec (motive:=fun _=>dO) ⟨fun b n=>dX.rec (motive:=fun _=>bO→dX) (fun a0 a1 a2 a3 _ a5 a6 a7 a8 a9 aY aZ a12 bf bg bn b=>⟨a0,a1,a2,a3,b,a5,a6,a7,a8,a9,aY,aZ,a12,bf,bg,bn⟩) n b⟩ ⟨fun b n=>dX.rec (motive:=fun _=>bO→dX) (fun a0 a1 a2 a3 a4 _ a6 a7 a8 a9 aY aZ a12 bf bg bn b=>⟨a0,a1,a2,a3,a4,b,a6,a7,a8,a9,aY,aZ,a12,bf,bg,bn⟩) n b⟩ (Nat.ble 5 d)
def dX.tT (d:Nat):dO:=Bool.rec (motive:=fun _=>dO) ⟨fun b n=>dX.rec (motive:=fun _=>bO→dX) (fun a0 a1 a2 a3 a4 a5 _ a7 a8 a9 aY aZ a12 bf bg bn b=>⟨a0,a1,a2,a3,a4,a5,b,a7,a8,a9,aY,aZ,a12,bf,bg,bn⟩) n b⟩ ⟨fun b n=>dX.rec (motive:=fun _=>bO→dX) (fun a0 a1 a2 a3 a4 a5 a6 _ a8 a9 aY aZ a12 bf bg bn b=>⟨a0,a1,a2,a3,a4,a5,a6,b,a8,a9,aY,aZ,a12,bf,bg,bn⟩) n b⟩ (Nat.ble 7 d)
def dX.tV (d:Nat):dO:=Bool.rec (motive:=fun _=>dO) (dX.tQ d) (dX.tT d) (Nat.ble 6 d)
def dX.tX (d:Nat):dO:=Bool.rec (motive:=fun _=>dO) (dX.tO d) (dX.tV d) (Nat.ble 4 d)
def dX.qc (d:Nat):dO:=Bool.rec (motive:=fun _=>dO) ⟨fun b n=>dX.rec (motive:=fun _=>bO→dX) (fun a0 a1 a2 a3 a4 a5 a6 a7 _ a9 aY aZ a12 bf bg bn b=>⟨a0,a1,a2,a3,a4,a5,a6,a7,b,a9,aY,aZ,a12,bf,bg,bn⟩) n b⟩ ⟨fun b n=>dX.rec (motive:=fun _=>bO→dX) (fun a0 a1 a2 a3 a4 a5 a6 a7 a8 _ aY aZ a12 bf bg bn b=>⟨a0,a1,a2,a3,a4,a5,a6,a7,a8,b,aY,aZ,a12,bf,bg,bn⟩) n b⟩ (Nat.ble 9 d)
def dX.nP (d:Nat):dO:=Bool.rec (motive:=fun _=>dO) ⟨fun b n=>dX.rec (motive:=fun _=>bO→dX) (fun a0 a1 a2 a3 a4 a5 a6 a7 a8 a9 _ aZ a12 bf bg bn b=>⟨a0,a1,a2,a3,a4,a5,a6,a7,a8,a9,b,aZ,a12,bf,bg,bn⟩) n b⟩ ⟨fun b n=>dX.rec (motive:=fun _=>bO→dX) (fun a0 a1 a2 a3 a4 a5 a6 a7 a8 a9 aY _ a12 bf bg bn b=>⟨a0,a1,a2,a3,a4,a5,a6,a7,a8,a9,aY,b,a12,bf,bg,bn⟩) n b⟩ (Nat.ble 11 d)
def dX.qd (d:Nat):dO:=Bool.rec (motive:=fun _=>dO) (dX.qc d) (dX.nP d) (Nat.ble 10 d)
def dX.nQ (d:Nat):dO:=Bool.rec (motive:=fun _=>dO) ⟨fun b n=>dX.rec (motive:=fun _=>bO→dX) (fun a0 a1 a2 a3 a4 a5 a6 a7 a8 a9 aY aZ _ bf bg bn b=>⟨a0,a1,a2,a3,a4,a5,a6,a7,a8,a9,aY,aZ,b,bf,bg,bn⟩) n b⟩ ⟨fun b n=>dX.rec (motive:=fun _=>bO→dX) (fun a0 a1 a2 a3 a4 a5 a6 a7 a8 a9 aY aZ a12 _ bg bn b=>⟨a0,a1,a2,a3,a4,a5,a6,a7,a8,a9,aY,aZ,a12,b,bg,bn⟩) n b⟩ (Nat.ble 13 d)
def dX.nR (d:Nat):dO:=Bool.rec (motive:=fun _=>dO) ⟨fun b n=>dX.rec (motive:=fun _=>bO→dX) (fun a0 a1 a2 a3 a4 a5 a6 a7 a8 a9 aY aZ a12 bf _ bn b=>⟨a0,a1,a2,a3,a4,a5,a6,a7,a8,a9,aY,aZ,a12,bf,b,bn⟩) n b⟩ ⟨fun b n=>dX.rec (motive:=fun _=>bO→dX) (fun a0 a1 a2 a3 a4 a5 a6 a7 a8 a9 aY aZ a12 bf bg _ b=>⟨a0,a1,a2,a3,a4,a5,a6,a7,a8,a9,aY,aZ,a12,bf,bg,b⟩) n b⟩ (Nat.ble 15 d)
def dX.nS (d:Nat):dO:=Bool.rec (motive:=fun _=>dO) (dX.nQ d) (dX.nR d) (Nat.ble 14 d)
def dX.qf (d:Nat):dO:=Bool.rec (motive:=fun _=>dO) (dX.qd d) (dX.nS d) (Nat.ble 12 d)
def dX.sZ (d:Nat):dO:=Bool.rec (motive:=fun _=>dO) (dX.tX d) (dX.qf d) (Nat.ble 8 d)
def dX.pX (d:Nat) (n:dX):bO:=(pE d).f n
def dX.put (d:Nat) (b:bO) (n:dX):dX:=(sZ d).f b n
def dX.rep (b:bO):dX:=⟨b,b,b,b,b,b,b,b,b,b,b,b,b,b,b,b⟩
theorem dX.kE {d d':Nat} (h:d<16) (h':d'<16) (b:bO) (n:dX):pX d (put d' b n)=if d=d' then b else pX d n:=by
 have k:=sixteen h
 have k':=sixteen h'
 clear h h'
 obtain ⟨a0,a1,a2,a3,a4,a5,a6,a7,a8,a9,aY,aZ,a12,bf,bg,bn⟩:=n
 rcases k with rfl|rfl|rfl|rfl|rfl|rfl|rfl|rfl|rfl|rfl|rfl|rfl|rfl|rfl|rfl|rfl<;>rcases k' with rfl|rfl|rfl|rfl|rfl|rfl|rfl|rfl|rfl|rfl|rfl|rfl|rfl|rfl|rfl|rfl<;>rfl
theorem dX.kF {d:Nat} (h:d<16) (b:bO):pX d (rep b)=b:=by
 have k:=sixteen h
 clear h
 rcases k with rfl|rfl|rfl|rfl|rfl|rfl|rfl|rfl|rfl|rfl|rfl|rfl|rfl|rfl|rfl|rfl<;>rfl
structure TH where
 lo:dX
 hi:BT aJ
structure abG where
 f:TH→Option aJ
structure abH where
 f:Option aJ→TH→TH
def TH.e:TH:=⟨dX.rep (bO.rep (bP.rep none)),.e⟩
def TH.KZ (k:Nat):abG:=
 Bool.rec (motive:=fun _=>abG) ⟨fun t=>BT.vU (way k) t.hi⟩ ⟨fun t=>(bP.pE (Nat.mod k 16)).f ((bO.pE (Nat.mod (Nat.div k 16) 16)).f ((dX.pE (Nat.div k 256)).f t.lo))⟩ (Nat.blt k 4096)
def TH.acs (y z:Nat) (v:Option aJ) (p:bO):bO:=(bO.sZ y).f ((bP.sZ z).f v ((bO.pE y).f p)) p
def TH.Iy (k:Nat):abH:=
 Bool.rec (motive:=fun _=>abH) ⟨fun v t=>TH.rec (motive:=fun _=>TH) (fun lo hi=>⟨lo,BT.FH v (way k) hi⟩) t⟩
  ⟨fun v t=>⟨(dX.sZ (Nat.div k 256)).f (TH.acs (Nat.mod (Nat.div k 16) 16) (Nat.mod k 16) v ((dX.pE (Nat.div k 256)).f t.lo)) t.lo,t.hi⟩⟩ (Nat.blt k 4096)
def TH.get (t:TH) (k:Nat):Option aJ:=(TH.KZ k).f t
def TH.set (t:TH) (k:Nat) (v:Option aJ):TH:=(TH.Iy k).f v t
theorem TH.nJ {k:Nat} (h:k<4096) (t:TH):t.get k=bP.pX (k%16) (bO.pX (k/16%16) (dX.pX (k/256) t.lo)):=by
 have:Nat.blt k 4096=true:=Nat.ble_eq_true_of_le h
 unfold TH.get TH.KZ;rw [this];rfl
theorem TH.nK {k:Nat} (h:¬k<4096) (t:TH):t.get k=BT.vU (way k) t.hi:=by
 have:Nat.blt k 4096=false:=by
  cases hb:Nat.blt k 4096 with
  |false=>rfl
  |true=>exact absurd (Nat.le_of_ble_eq_true hb) h
 unfold TH.get TH.KZ;rw [this]
theorem TH.Dc {k:Nat} (h:k<4096) (t:TH) (v:Option aJ):t.set k v=⟨dX.put (k/256) (bO.put (k/16%16) (bP.put (k%16) v (bO.pX (k/16%16) (dX.pX (k/256) t.lo))) (dX.pX (k/256) t.lo)) t.lo,t.hi⟩:=by
 have:Nat.blt k 4096=true:=Nat.ble_eq_true_of_le h
 unfold TH.set TH.Iy;rw [this];rfl
theorem TH.De {k:Nat} (h:¬k<4096) (t:TH) (v:Option aJ):t.set k v=⟨t.lo,BT.FH v (way k) t.hi⟩:=by
 have:Nat.blt k 4096=false:=by
  cases hb:Nat.blt k 4096 with
  |false=>rfl
  |true=>exact absurd (Nat.le_of_ble_eq_true hb) h
 unfold TH.set TH.Iy;rw [this]
theorem TH.fT (t:TH) (k j:Nat) (v:Option aJ):(t.set k v).get j=if j=k then v else t.get j:=by
 by_cases hk:k<4096<;>by_cases hj:j<4096
 ·rw [TH.Dc hk,TH.nJ hj,TH.nJ hj,dX.kE (by omega) (by omega)]
  by_cases h1:j/256=k/256
  ·rw [if_pos h1,bO.kE (by omega) (by omega)]
   by_cases h2:j/16%16=k/16%16
   ·rw [if_pos h2,bP.kE (by omega) (by omega)]
    by_cases h3:j%16=k%16
    ·rw [if_pos h3,if_pos (by omega)]
    ·rw [if_neg h3,if_neg (by omega),h1,h2]
   ·rw [if_neg h2,if_neg (by omega),h1]
  ·rw [if_neg h1,if_neg (by omega)]
 ·rw [TH.Dc hk,TH.nK hj,TH.nK hj,if_neg (by omega)]
 ·rw [TH.De hk,TH.nJ hj,TH.nJ hj,if_neg (by omega)]
 ·rw [TH.De hk,TH.nK hj,TH.nK hj,BT.Gq]
  by_cases h:j=k
  ·subst h;simp
  ·rw [if_neg h,if_neg (fun e=>h (Re e))]
theorem TH.Gr (k:Nat):TH.e.get k=none:=by
 by_cases h:k<4096
 ·rw [TH.nJ h]
  show bP.pX (k%16) (bO.pX (k/16%16) (dX.pX (k/256) (dX.rep (bO.rep (bP.rep none)))))=none
  rw [dX.kF (by omega),bO.kF (by omega),bP.kF (by omega)]
 ·rw [TH.nK h];exact BT.wV _
def di (P:Program) {α:Type}:Sem α→Option α
 | .pure a=>some a
 | .program k=>di P (k P)
 | .mark _ k=>di P k
 |_=>none
def af:Nat→Value→Bool
 |0,_=>false
 |n+1,v=>
  match v with
  | .bool _| .int _ _| .float _ _| .string _| .pointer none| .slice none _ _| .map none| .nilFunc| .nilIface=>true
  | .iface _ x=>af n x
  | .agg cs=>cs.toList.all (af n)
  | .tuple cs=>cs.toList.all (af n)
  | .func (.func _) a b=>a.toList.all (af n)&&b.toList.all (af n)
  |_=>false
def Df (a b:ByteArray):Bool:=a.data.toList==b.data.toList
def rU (f:Value→Value→Bool):List Value→List Value→Bool
 |[],[]=>true
 |a::l,b::m=>f a b&&rU f l m
 |_,_=>false
def Dg:Nat→Value→Value→Bool
 |0,_,_=>false
 |n+1,v,w=>
  match v,w with
  | .bool a,.bool b=>a==b
  | .int j a,.int k b=>j==k&&a==b
  | .string a,.string b=>Df a b
  | .pointer none,.pointer none=>true
  | .slice none a b,.slice none c d=>a==c&&b==d
  | .map none,.map none=>true
  | .nilFunc,.nilFunc=>true
  | .nilIface,.nilIface=>true
  | .iface t a,.iface u b=>t==u&&Dg n a b
  | .agg a,.agg b=>rU (Dg n) a.toList b.toList
  | .tuple a,.tuple b=>rU (Dg n) a.toList b.toList
  | .pointer (some ⟨i,k,none⟩),.pointer (some ⟨j,l,none⟩)=>i==j&&k==l
  | .slice (some ⟨i,k,none⟩) a b,.slice (some ⟨j,l,none⟩) c d=>i==j&&k==l&&a==c&&b==d
  | .map (some i),.map (some j)=>i==j
  | .func (.func f) a b,.func (.func g) c d=>f==g&&rU (Dg n) a.toList c.toList&&rU (Dg n) b.toList d.toList
  |_,_=>false
structure H where
 hp:TH
 nx:Nat
 mw:Nat
structure St where
 tm:TV
 sz:Nat
 df:List Deferred
 h:H
def H.new (h:H) (o:aJ):H:={hp:=h.hp.set h.nx (some o),nx:=h.nx+1,mw:=h.mw}
def H.put (h:H) (i:Nat) (o:Option aJ):H:={hp:=h.hp.set i o,nx:=h.nx,mw:=bif Nat.ble i h.mw then i else h.mw}
def ax (G:Nat) (tm:TV):Operand→Option Value
 | .tmp t=>tm.get t
 | .const v=>bif af 6 v then some v else none
 | .global g=>bif Nat.blt g G then some (.pointer (some ⟨g,0,none⟩)) else none
 | .func f=>some (.func (.func f) #[] #[])
def dY (G:Nat) (tm:TV):List Operand→Option (List Value)
 |[]=>some []
 |x::r=>match ax G tm x,dY G tm r with
  |some v,some l=>some (v::l)
  |_,_=>none
def iT (sz:Nat) (tm:TV) (dst:Option Tmp) (v:Value):TV:=
 match dst with
 |some d=>bif Nat.blt d sz then tm.set d (some v) else tm
 |none=>tm
def rJ (n:Nat):Nat:=2*n+1
def mH (n size:Nat):Nat:=2*(n+size*4294967296)
def iO (c:Nat):Bool:=Nat.beq (c%2) 1
def jK (c:Nat):Nat:=bif iO c then c/2 else (c/2)%4294967296
def lH (c:Nat):Nat:=c/8589934592
def dU (P:Program) (t:TypeId):Option Nat:=(P.info? t).map (·.size)
def mI (P:Program) (t:TypeId):Option Value:=
 match (P.info? t).bind (·.zero) with
 |some v=>bif af 6 v then some v else none
 |none=>none
def tY (P:Program) (t:TypeId):Option Bool:=
 match P.underlying t with
 |some (.struct _)|some (.array _ _)=>some true
 |some _=>some false
 |none=>none
def H.cells (h:H) (i:Nat):Option (List Value):=
 match h.hp.get i with
 |some (.cells cs)=>some cs
 |_=>none
def takeN (n:Nat) (l:List Value):Option (List Value):=
 let m:=l.take n
 bif Nat.beq m.length n then some m else none
def H.read (h:H) (i k n:Nat):Option (List Value):=
 match h.cells i with
 |some cs=>takeN n (cs.drop k)
 |none=>none
def oneCell:Value→Bool
 | .agg _=>false
 | .tuple _=>false
 |_=>true
def putAt:List Value→Nat→List Value→Option (List Value)
 |cs,0,vs=>bif Nat.ble vs.length cs.length then some (vs++cs.drop vs.length) else none
 |c::cs,k+1,vs=>match putAt cs k vs with|some r=>some (c::r)|none=>none
 |[],_+1,_=>none
def H.write (G:Nat) (h:H) (i k:Nat) (vs:List Value):Option H:=
 bif Nat.ble G i&&vs.all oneCell then
  match h.cells i with
  |some cs=>match putAt cs k vs with|some cs'=>some (h.put i (some (.cells cs')))|none=>none
  |none=>none
 else none
def H.yj (P:Program) (h:H) (t:TypeId) (i k:Nat):Option Value:=
 match tY P t,dU P t with
 |some true,some n=>(h.read i k n).map fun l=> .agg l.toArray
 |some false,_=>match h.read i k 1 with|some [v]=>some v|_=>none
 |_,_=>none
def Gs (P:Program) (t:TypeId) (cs:List Value) (off:Nat):Option Value:=
 match tY P t,dU P t with
 |some true,some n=>(takeN n (cs.drop off)).map fun l=> .agg l.toArray
 |some false,_=>cs[off]?
 |_,_=>none
def nT (x:Value) (y:Nat):Option Nat:=
 match x with
 | .int _ i=>bif decide (0≤i)&&decide (i≤y) then some i.toNat else none
 |_=>none
def lI (len cap:Nat) (lo hi mx:Option (Option Value)):Option (Nat×Nat×Nat):=
 match (match mx with|some (some v)=>nT v cap|some none=>none|none=>some cap) with
 |none=>none
 |some m=>
  match (match hi,mx with|some (some v),_=>nT v m|some none,_=>none|none,none=>some len|none,some _=>none) with
  |none=>none
  |some h=>
   match (match lo with|some (some v)=>nT v h|some none=>none|none=>some 0) with
   |none=>none
   |some l=>some (l,h,m)
def Dh (P:Program) (t:TypeId) (x:Value) (lo hi mx:Option (Option Value)):Option Value:=
 match P.underlying t,x with
 |some (.array n elem),.pointer (some ⟨i,k,none⟩)=>
  match lI n n lo hi mx,dU P elem with
  |some (l,h,m),some size=>some (.slice (some ⟨i,bif Nat.beq m l then k else k+l*size,none⟩) (h-l) (rJ (m-l)))
  |_,_=>none
 |some (.slice elem),.slice (some ⟨i,k,none⟩) len c=>
  match lI len (jK c) lo hi mx,dU P elem with
  |some (l,h,m),some size=>
   bif iO c||mx.isSome then some (.slice (some ⟨i,bif Nat.beq m l then k else k+l*size,none⟩) (h-l) (rJ (m-l)))
   else bif (Nat.beq l 0||Nat.blt l m)&&Nat.beq size (lH c) then some (.slice (some ⟨i,k+l*size,none⟩) (h-l) (mH (m-l) size))
   else none
  |_,_=>none
 |some (.slice elem),.slice none len c=>
  match lI len c lo hi mx,dU P elem with
  |some (l,h,m),some _=>some (.slice none (h-l) (m-l))
  |_,_=>none
 |_,_=>none
def Di (P:Program) (id:Nat) (elem:TypeId):Option (Value×aJ):=
 match mI P elem with
 |some z=>some (.pointer (some ⟨id,0,none⟩),.cells z.cells.toList)
 |none=>none
def WC (G:Nat) (tm:TV) (id:Nat) (x:Operand):Option (Value×aJ):=
 match ax G tm x with
 |some v=>some (.pointer (some ⟨id,0,none⟩),.cells v.cells.toList)
 |none=>none
def K3 (size n:Nat) (z:Value) (l:List (Nat×Value)):Option (Array Value):=
 bif Nat.ble n 16777216&&Nat.blt 0 size&&Nat.beq z.cells.size size then Instr.fill (fun i=>some (i*size,size)) ((Array.range n).map (z.cells[· %z.cells.size]!)) l else none
def j3 (P:Program) (G:Nat) (tm:TV) (id:Nat) (t:TypeId) (len:Nat) (parts:Array (Nat×Operand)):Option (Value×aJ):=
 match P.underlying t,dY G tm (parts.toList.map (·.2)) with
 |some (.slice elem),some vs=>
  match dU P elem,mI P elem with
  |some size,some z=>match K3 size (len*size) z ((parts.toList.map (·.1)).zip vs) with
   |some cells=>some (.slice (some ⟨id,0,none⟩) len (rJ len),.cells cells.toList)
   |none=>none
  |_,_=>none
 |_,_=>none
def qg (P:Program) (G:Nat) (tm:TV) (id:Nat) (t:TypeId) (r:Option Operand):Option (Value×aJ):=
 match r with
 |none=>some (.map (some id),.map [] 0)
 |some r=>match P.underlying t,ax G tm r with
  |some (.map _ _),some (.int _ _)=>some (.map (some id),.map [] 0)
  |_,_=>none
def Iz (id:Nat) (l c size:Nat) (z:Value):Option (Value×aJ):=
 bif Nat.beq z.cells.size size&&Nat.blt 0 size then
  some (.slice (some ⟨id,0,none⟩) l (rJ c),.cells ((List.range (c*size)).map fun i=>z.cells[i%z.cells.size]!))
 else none
def kX (P:Program) (G:Nat) (tm:TV) (id:Nat) (t:TypeId) (l c:Operand):Option (Value×aJ):=
 match P.underlying t,ax G tm l,ax G tm c with
 |some (.slice elem),some (.int _ l),some (.int _ c)=>
  match dU P elem,mI P elem with
  |some size,some z=>
   bif decide (0≤l)&&decide (l≤c)&&decide (c≤1048576)&&Nat.ble ((P.info? elem).elim 0 (·.bytes)) 1048576 then Iz id l.toNat c.toNat size z else none
  |_,_=>none
 |_,_,_=>none
def zO (P:Program) (G:Nat) (tm:TV) (id:Nat):Op→Option (Value×aJ)
 | .alloc elem=>Di P id elem
 | .box _ x=>WC G tm id x
 | .buildSlice t len parts=>j3 P G tm id t len parts
 | .makeMap t r=>qg P G tm id t r
 | .makeSlice t l c=>kX P G tm id t l c
 |_=>none
def K4 (G:Nat) (tm:TV) (c a b:Operand):Option Value:=
 match ax G tm c with
 |some (.bool true)=>ax G tm a
 |some (.bool false)=>ax G tm b
 |_=>none
def mP (P:Program):List Field→Option (List (Nat×Nat))
 |[]=>some []
 |f::r=>match dU P f.type,mP P r with
  |some s,some l=>some ((f.offset,s)::l)
  |_,_=>none
def zP (P:Program) (G:Nat) (tm:TV) (t:TypeId) (parts:Array (Nat×Operand)):Option Value:=
 match mI P t,P.underlying t,dY G tm (parts.toList.map (·.2)) with
 |some z,some (.struct fields),some vs=>
  match mP P fields.toList with
  |some places=>(Instr.fill (fun i=>places[i]?) z.cells ((parts.toList.map (·.1)).zip vs)).map .agg
  |none=>none
 |some z,some (.array _ elem),some vs=>
  match dU P elem with
  |some size=>(Instr.fill (fun i=>some (i*size,size)) z.cells ((parts.toList.map (·.1)).zip vs)).map .agg
  |none=>none
 |_,_,_=>none
def Bi (P:Program) (G:Nat) (tm:TV) (h:H) (t:TypeId) (x:Operand):Option Value:=
 match ax G tm x with
 |some (.pointer (some ⟨i,k,none⟩))=>h.yj P t i k
 |_=>none
def qh (G:Nat) (tm:TV) (x:Operand):Option Value:=
 match ax G tm x with
 |some (.pointer (some a))=>some (.pointer (some a))
 |some (.func (.func f) a b)=>some (.func (.func f) a b)
 |some (.iface t v)=>some (.iface t v)
 |_=>none
def Bj (P:Program) (t:TypeId) (a b:Value):Bool:=
 match a,b with
 | .slice (some _) _ _,.slice none _ _| .slice none _ _,.slice (some _) _ _=>match P.underlying t with|some (.slice _)=>true|_=>false
 | .pointer (some _),.pointer none| .pointer none,.pointer (some _)=>match P.underlying t with|some (.pointer _)=>true|_=>false
 | .func (.func _) _ _,.nilFunc=>match P.underlying t with|some (.func _ _ _)=>true|_=>false
 | .map (some _),.map none=>match P.underlying t with|some (.map _ _)=>true|_=>false
 |_,_=>false
def Zw:Option Value→Option Value
 |some v=>bif af 6 v then some v else none
 |none=>none
def Dj (op:BinOp) (k:IntKind) (a b:Int):Option Value:=
 match op with
 | .eql=>some (.bool (decide (a=b)))
 | .neq=>some (.bool (!decide (a=b)))
 | .lss=>some (.bool (decide (a<b)))
 | .leq=>some (.bool (decide (a≤b)))
 | .gtr=>some (.bool (decide (b<a)))
 | .geq=>some (.bool (decide (b≤a)))
 | .add=>some (.int k (k.wrap (a+b)))
 | .sub=>some (.int k (k.wrap (a-b)))
 |_=>none
def lJ (P:Program) (op:BinOp) (t:TypeId) (x y:Operand) (a b:Value):Option Value:=
 bif af 6 a&&af 6 b then Zw (di P (do eqGuard op t x y a b;binOp op t a b))
 else match op with
  | .eql=>bif Bj P t a b then some (.bool false) else none
  | .neq=>bif Bj P t a b then some (.bool true) else none
  |_=>none
def zQ (P:Program) (G:Nat) (tm:TV) (op:BinOp) (t:TypeId) (x y:Operand):Option Value:=
 match ax G tm x,ax G tm y with
 |some a,some b=>match a,b with
  | .int k m,.int k' n=>match (bif decide (k=k') then Dj op k m n else none) with
    |some v=>some v
    |none=>lJ P op t x y a b
  |_,_=>lJ P op t x y a b
 |_,_=>none
def K5 (P:Program) (G:Nat) (tm:TV) (op:UnOp) (x:Operand):Option Value:=
 match ax G tm x with
 |some a=>bif af 6 a then Zw (di P (Op.unary op a)) else none
 |none=>none
def byteOf:Value→Option UInt8
 | .int .u8 n=>some (UInt8.ofNat n.toNat)
 |_=>none
def bytesOf:List Value→Option (List UInt8)
 |[]=>some []
 |v::r=>match byteOf v,bytesOf r with
  |some b,some l=>some (b::l)
  |_,_=>none
def Rf (P:Program) (h:H) (e:TypeId) (i k len:Nat):Option Value:=
 match P.underlying e,h.read i k len with
 |some (.int .u8),some l=>(bytesOf l).map fun l=> .string ⟨l.toArray⟩
 |_,_=>none
def qi (P:Program) (G:Nat) (tm:TV) (h:H) (s d:TypeId) (x:Operand):Option Value:=
 match ax G tm x with
 |some a=>
  bif af 6 a then Zw (di P (convert s d a))
  else match P.underlying s,P.underlying d,a with
   |some (.slice e),some .string,.slice (some ⟨i,k,none⟩) len _=>Rf P h e i k len
   |some (.pointer t),some .unsafePointer,.pointer (some ⟨i,k,none⟩)=>match dU P t,h.cells i with
    |some n,some cs=>bif Nat.blt 0 n&&Nat.blt k cs.length then some a else none
    |_,_=>none
   |_,_,_=>none
 |none=>none
def gD (P:Program) (G:Nat) (tm:TV) (t:TypeId) (x:Operand):Option Value:=
 match P.underlying t,ax G tm x with
 |some (.interface _),_=>none
 |some _,some v=>some (.iface t v)
 |_,_=>none
def qj (G:Nat) (tm:TV) (fn:Fn) (first captured:Array Operand):Option Value:=
 match fn,dY G tm first.toList,dY G tm captured.toList with
 | .func f,some a,some b=>some (.func (.func f) a.toArray b.toArray)
 |_,_,_=>none
def zR (P:Program) (G:Nat) (tm:TV) (t:TypeId) (x:Operand) (lo hi mx:Option Operand):Option Value:=
 match ax G tm x with
 |some (.string s)=>match P.underlying t,mx with
  |some .string,none=>match lI s.size s.size (lo.map (ax G tm)) (hi.map (ax G tm)) none with
   |some (l,h,_)=>some (.string (s.extract l h))
   |none=>none
  |_,_=>none
 |some a=>Dh P t a (lo.map (ax G tm)) (hi.map (ax G tm)) (mx.map (ax G tm))
 |none=>none
def iX (P:Program) (G:Nat) (tm:TV) (s:TypeId) (x:Operand) (f:Nat):Option Value:=
 match P.underlying s,ax G tm x with
 |some (.struct fields),some (.pointer (some ⟨i,k,none⟩))=>match fields[f]? with
  |some f=>match dU P f.type with
   |some n=>bif Nat.blt 0 n then some (.pointer (some ⟨i,k+f.offset,none⟩)) else none
   |none=>none
  |none=>none
 |_,_=>none
def zS (P:Program) (G:Nat) (tm:TV) (s:TypeId) (x:Operand) (f:Nat):Option Value:=
 match P.underlying s,ax G tm x with
 |some (.struct fields),some (.agg cs)=>match fields[f]? with
  |some f=>Gs P f.type cs.toList f.offset
  |none=>none
 |_,_=>none
def zT (P:Program) (elem:TypeId) (i k n:Nat) (j:Int):Option Value:=
 match dU P elem with
 |some size=>bif decide (0≤j)&&decide (j<n) then some (.pointer (some ⟨i,k+j.toNat*size,none⟩)) else none
 |none=>none
def kY (P:Program) (G:Nat) (tm:TV) (t:TypeId) (x ix:Operand):Option Value:=
 match P.underlying t,ax G tm x,ax G tm ix with
 |some (.array n elem),some (.pointer (some ⟨i,k,none⟩)),some (.int _ j)=>zT P elem i k n j
 |some (.slice elem),some (.slice (some ⟨i,k,none⟩) n _),some (.int _ j)=>zT P elem i k n j
 |_,_,_=>none
def zU (P:Program) (G:Nat) (tm:TV) (t:TypeId) (x ix:Operand):Option Value:=
 match P.underlying t,ax G tm x,ax G tm ix with
 |some .string,some (.string s),some (.int _ j)=>bif decide (0≤j) then (match s.data.toList[j.toNat]? with|some b=>some (.int .u8 b.toNat)|none=>none) else none
 |some (.array n elem),some (.agg cs),some (.int _ j)=>match dU P elem with
  |some size=>bif decide (0≤j)&&decide (j<n) then Gs P elem cs.toList (j.toNat*size) else none
  |none=>none
 |_,_,_=>none
def bare (es:List MapEntry):List MapEntry:=es.map fun e=>{e with val:=undef}
def oO (P:Program) (empty:Bool) (kt:TypeId) (k:Value) (es:List MapEntry):Option (Option Nat):=
 bif af 6 k&&es.all (fun e=>af 6 e.key) then
  match di P (Instr.checkKey empty 10000 kt k),di P (Instr.findKey kt k (bare es)) with
  |some _,some (some (i,_))=>some (some i)
  |some _,some none=>some none
  |_,_=>none
 else none
def ym (h:H):Value→Option (List MapEntry)
 | .map none=>some []
 | .map (some r)=>match h.hp.get r with|some (.map es _)=>some es|_=>none
 |_=>none
def vv (P:Program) (G:Nat) (tm:TV) (h:H) (t:TypeId) (x ix:Operand) (ok:Bool):Option Value:=
 match P.underlying t,ax G tm x,ax G tm ix with
 |some (.map kt et),some m,some k=>
  match ym h m with
  |none=>none
  |some es=>match oO P es.isEmpty kt k es with
   |some (some i)=>match es[i]? with
    |some e=>some (bif ok then .tuple #[e.val,.bool true] else e.val)
    |none=>none
   |some none=>match mI P et with
    |some z=>some (bif ok then .tuple #[z,.bool false] else z)
    |none=>none
   |none=>none
 |_,_,_=>none
def tZ (G:Nat) (tm:TV) (x:Operand) (i:Nat):Option Value:=
 match ax G tm x with
 |some (.tuple vs)=>vs[i]?
 |_=>none
def Dk (G:Nat) (tm:TV) (h:H) (x:Operand):Option Value:=
 match ax G tm x with
 |some (.pointer (some ⟨r,0,none⟩))=>match h.hp.get r with
  |some (.walk (some m) _ seen stepped)=>match seen.head?,h.hp.get m with
   |some stamp,some (.map es clock)=>bif Nat.beq clock stepped then
     (match es.find? (fun e=>Nat.beq e.born stamp) with|some e=>some (.tuple #[e.key,e.val])|none=>none) else none
   |_,_=>none
  |_=>none
 |_=>none
def Te (P:Program) (G:Nat) (tm:TV) (h:H) (t:TypeId) (x:Operand):Option Value:=
 match P.underlying t,ax G tm x with
 |some .string,some (.string s)=>some (.int .i64 s.size)
 |some (.slice _),some (.slice _ n _)=>some (.int .i64 n)
 |some (.array n _),some _=>some (.int .i64 n)
 |some (.map _ _),some (.map none)=>some (.int .i64 0)
 |some (.map _ _),some (.map (some r))=>match h.hp.get r with|some (.map es _)=>some (.int .i64 es.length)|_=>none
 |_,_=>none
def Tf (P:Program) (G:Nat) (tm:TV) (t:TypeId) (x:Operand):Option Value:=
 match P.underlying t,ax G tm x with
 |some (.slice _),some (.slice none _ n)=>some (.int .i64 n)
 |some (.slice _),some (.slice (some _) _ c)=>bif iO c then some (.int .i64 (jK c)) else none
 |_,_=>none
def qZ (P:Program) (G:Nat) (tm:TV) (mx:Bool) (ats:Array TypeId) (args:Array Operand):Option Value:=
 match dY G tm args.toList with
 |some vs=>bif vs.all (af 6) then Zw (di P (bif mx then Builtin.max_ ats 0 vs.toArray else Builtin.min_ ats 0 vs.toArray)) else none
 |none=>none
def ug (P:Program) (G:Nat) (tm:TV) (h:H) (b:Builtin) (args:Array Operand) (ats:Array TypeId):Option Value:=
 match b with
 | .len=>match args.toList,ats.toList with|[x],[t]=>Te P G tm h t x|_,_=>none
 | .cap=>match args.toList,ats.toList with|[x],[t]=>Tf P G tm t x|_,_=>none
 | .min=>qZ P G tm false ats args
 | .max=>qZ P G tm true ats args
 |_=>none
def Gt (P:Program) (G:Nat) (tm:TV) (h:H) (c:Call):Option Value:=
 match c.callee with
 | .builtin b=>ug P G tm h b c.args c.argTypes
 |_=>none
def mq (P:Program) (G:Nat) (tm:TV) (h:H):Op→Option Value
 | .move x=>ax G tm x
 | .assign x=>ax G tm x
 | .pick c a b=>K4 G tm c a b
 | .build t parts=>zP P G tm t parts
 | .load t x=>Bi P G tm h t x
 | .nilCheck x=>qh G tm x
 | .binOp op t x y _=>zQ P G tm op t x y
 | .unOp op _ x=>K5 P G tm op x
 | .convert s d x=>qi P G tm h s d x
 | .makeInterface t x=>gD P G tm t x
 | .makeFunc fn first captured=>qj G tm fn first captured
 | .slice t x lo hi mx=>zR P G tm t x lo hi mx
 | .fieldAddr s x f=>iX P G tm s x f
 | .field s x f=>zS P G tm s x f
 | .indexAddr t x ix=>kY P G tm t x ix
 | .index t x ix=>zU P G tm t x ix
 | .lookup t x ix ok=>vv P G tm h t x ix ok
 | .extract x i=>tZ G tm x i
 | .entry x=>Dk G tm h x
 | .call c=>Gt P G tm h c
 |_=>none
def cellsOf (h:H) (size n:Nat):Value→Option (List Value)
 | .slice (some ⟨i,k,none⟩) _ _=>h.read i k (n*size)
 | .slice none _ _=>some []
 | .string s=>some ((s.data.toList.take n).map fun b=> .int .u8 b.toNat)
 |_=>none
def Tg:Value→Option Nat
 | .slice _ n _=>some n
 | .string s=>some s.size
 |_=>none
def abI (G:Nat) (h:H) (size i k sLen c n:Nat) (new:List Value):Option (Value×H):=
 match h.read i k (sLen*size) with
 |some old=>
  bif new.all oneCell&&(iO c||(Nat.beq (lH c) size&&Nat.ble G i)) then
   let h1:H:=bif iO c then h else h.put i none
   some (.slice (some ⟨h.nx,0,none⟩) (sLen+n) (mH (sLen+n) size),h1.new (.cells (old++new)))
  else none
 |none=>none
def yu (G:Nat) (h:H) (size n:Nat) (new:List Value) (base:Option Addr) (sLen c:Nat):Option (Value×H):=
 match base with
 |some ⟨i,k,none⟩=>
  bif Nat.ble (sLen+n) (jK c) then
   match h.write G i (k+sLen*size) new with
   |some h'=>some (.slice base (sLen+n) c,h')
   |none=>none
  else abI G h size i k sLen c n new
 |none=>
  bif Nat.beq sLen 0&&Nat.beq c 0 then
   bif Nat.beq n 0 then some (.slice none 0 0,h)
   else some (.slice (some ⟨h.nx,0,none⟩) n (mH n size),h.new (.cells new))
  else none
 |_=>none
def yw (P:Program) (G:Nat) (h:H) (st xt:TypeId) (s x:Value):Option (Value×H):=
 match P.underlying st,P.underlying xt,s,Tg x with
 |some (.slice _),some (.int _),_,_=>none
 |some (.slice elem),some _,.slice base sLen c,some n=>
  match dU P elem,mI P elem with
  |some size,some z=>
   bif Nat.beq z.cells.size size&&Nat.blt 0 size&&Nat.ble (sLen+n) 1048576&&Nat.ble ((P.info? elem).elim 0 (·.bytes)) 1048576 then
    match cellsOf h size n x with
    |some new=>bif Nat.beq new.length (n*size) then yu G h size n new base sLen c else none
    |none=>none
   else none
  |_,_=>none
 |_,_,_,_=>none
inductive LR where
 |val (v:Value) (h:H)
 |enter (f:FuncId) (args:List Value)
 |round (l:Nat) (args:List Value)
 |defer (d:Deferred)
 |recover
def mD (P:Program) (G:Nat) (tm:TV) (h:H) (t:TypeId) (a x:Operand):Option LR:=
 match ax G tm a,ax G tm x,dU P t with
 |some (.pointer (some ⟨i,k,none⟩)),some v,some n=>
  bif Nat.beq v.cells.size n then (match h.write G i k v.cells.toList with|some h'=>some (LR.val undef h')|none=>none) else none
 |_,_,_=>none
def ql (P:Program) (G:Nat) (tm:TV) (h:H) (s d:TypeId) (x:Operand):Option LR:=
 match P.underlying s,P.underlying d,ax G tm x with
 |some .string,some (.slice e),some (.string b)=>match P.underlying e with
  |some (.int .u8)=>bif Nat.ble b.size 1048576 then some (.val (.slice (some ⟨h.nx,0,none⟩) b.size (mH b.size 1)) (h.new (.cells (b.data.toList.map fun c=> .int .u8 c.toNat)))) else none
  |_=>none
 |some (.slice _),some (.slice e),some (.slice (some ⟨i,k,none⟩) len c)=>match P.underlying e,h.cells i with
  |some (.int .u8),some cs=>bif Nat.beq s d&&Nat.ble G i then some (.val (.slice (some ⟨i,k,none⟩) len c) (h.put i (some (.cells cs)))) else none
  |_,_=>none
 |_,_,_=>none
def mapA (G:Nat) (h:H):Value→Option (Nat×List MapEntry×Nat)
 | .map (some r)=>match h.hp.get r with
   |some (.map es clock)=>bif Nat.ble G r then some (r,es,clock) else none
   |_=>none
 |_=>none
def iY (P:Program) (G:Nat) (tm:TV) (h:H) (t:TypeId) (m k x:Operand):Option LR:=
 match P.underlying t,(ax G tm m).bind (mapA G h),ax G tm k,ax G tm x with
 |some (.map kt _),some (r,es,clock),some k,some x=>
  match oO P false kt k es with
  |some (some i)=>match es[i]? with
   |some e=>bif Instr.sameBits 10000 e.key k then some (.val undef (h.put r (some (.map (es.set i {e with key:=k,val:=x}) clock)))) else none
   |none=>none
  |some none=>some (.val undef (h.put r (some (.map (es++[{key:=k,val:=x,born:=clock}]) (clock+1)))))
  |none=>none
 |_,_,_,_=>none
def nu (P:Program) (G:Nat) (tm:TV) (h:H) (t:TypeId) (m k:Operand):Option LR:=
 match P.underlying t,(ax G tm m).bind (mapA G h),ax G tm k with
 |some (.map kt et),some (r,es,clock),some k=>
  match oO P false kt k es,mI P et with
  |some (some i),_=>match es[i]? with
   |some e=>bif Instr.sameBits 10000 e.key k then
     some (.val (.tuple #[e.val,.int .i64 e.born]) (h.put r (some (.map (es.set i {e with key:=k}) clock)))) else none
   |none=>none
  |some none,some z=>some (.val (.tuple #[z,.int .i64 clock]) (h.put r (some (.map (es++[{key:=k,val:=z,born:=clock}]) (clock+1)))))
  |_,_=>none
 |_,_,_=>none
def lX (G:Nat) (tm:TV) (h:H) (m s x:Operand):Option LR:=
 match (ax G tm m).bind (mapA G h),ax G tm s,ax G tm x with
 |some (r,es,clock),some (.int _ born),some x=>
  match es.findIdx? (fun e=>(e.born:Int)==born) with
  |some i=>match es[i]? with
   |some e=>some (.val undef (h.put r (some (.map (es.set i {e with val:=x}) clock))))
   |none=>none
  |none=>none
 |_,_,_=>none
def zW (P:Program) (G:Nat) (tm:TV) (h:H) (t:TypeId) (x:Operand):Option LR:=
 match P.underlying t,ax G tm x with
 |some .string,some (.string s)=>some (.val (.pointer (some ⟨h.nx,0,none⟩)) (h.new (.text s 0)))
 |some (.map _ _),some (.map none)=>some (.val (.pointer (some ⟨h.nx,0,none⟩)) (h.new (.walk none 0 [] 0)))
 |some (.map _ _),some (.map (some m))=>match h.hp.get m with
  |some (.map _ clock)=>some (.val (.pointer (some ⟨h.nx,0,none⟩)) (h.new (.walk (some m) clock [] clock)))
  |_=>none
 |_,_=>none
def Dl (G:Nat) (rd:Option Nat) (tm:TV) (c:Call):Option LR:=
 match rd,c.callee with
 |none,.value f=>match ax G tm f,dY G tm c.args.toList with
  |some (.func (.func g) first captured),some args=>some (.defer {target:= .fn (.func g) captured,args:=first++args.toArray})
  |_,_=>none
 |_,_=>none
def vw (P:Program) (h:H) (g:FuncId) (args:List Value):Option LR:=
 bif args.all (af 6) then (match di P (callFunc g args.toArray) with|some (.value v)=>bif af 6 v then some (.val v h) else none|_=>none) else none
def Dm (_P:Program) (_G:Nat) (_h:H) (_fn:Func) (_args:List Value):Option LR:=none
def Gu (P:Program) (G:Nat) (h:H) (g:FuncId) (args:List Value):Option LR:=
 match P.funcs[g]? with
 |some fn=>
  match fn.body with
  |some _=>some (.enter g args)
  |none=>match vw P h g args with
   |some r=>some r
   |none=>bif Nat.blt P.globals.size G&&fn.origin== "" then Dm P G h fn args else none
 |none=>none
def Bl (P:Program) (G:Nat) (tm:TV) (h:H) (f:Operand) (args:Array Operand):Option LR:=
 match ax G tm f,dY G tm args.toList with
 |some (.func fn first captured),some args=>match fn with
  | .func g=>Gu P G h g (first.toList++args++captured.toList)
  | .yield l=>bif first.isEmpty&&captured.isEmpty then some (.round l args) else none
  |_=>none
 |_,_=>none
def Gv (P:Program) (G:Nat) (h:H) (t:TypeId) (d x:Value):Option LR:=
 match P.underlying t,d,Tg x with
 |some (.slice elem),.slice base dLen _,some n=>match dU P elem with
  |some size=>match cellsOf h size (min n dLen) x,base with
   |some new,some ⟨i,k,none⟩=>match h.write G i k new with|some h'=>some (LR.val (.int .i64 (min n dLen:Nat)) h')|none=>none
   |some [],none=>some (.val (.int .i64 (min n dLen:Nat)) h)
   |_,_=>none
  |none=>none
 |_,_,_=>none
def vz (P:Program) (G:Nat) (h:H) (t:TypeId) (m k:Value):Option LR:=
 match P.underlying t,mapA G h m with
 |some (.map kt _),some (r,es,clock)=>
  match oO P es.isEmpty kt k es with
  |some (some i)=>some (.val (.tuple #[]) (h.put r (some (.map (es.eraseIdx i) clock))))
  |some none=>some (.val (.tuple #[]) (h.put r (some (.map es clock))))
  |none=>none
 |_,_=>none
def zX (P:Program) (G:Nat) (h:H) (t:TypeId) (m:Value):Option LR:=
 match P.underlying t,mapA G h m with
 |some (.map _ _),some (r,_,clock)=>some (.val (.tuple #[]) (h.put r (some (.map [] clock))))
 |_,_=>none
def qm (P:Program) (G:Nat) (rd:Option Nat) (tm:TV) (h:H) (b:Builtin) (args:Array Operand) (ats:Array TypeId):Option LR:=
 match b,dY G tm args.toList,ats.toList with
 | .append,some [s,x],[t,u]=>match yw P G h t u s x with|some (v,h')=>some (.val v h')|none=>none
 | .copy,some [d,x],t::_=>Gv P G h t d x
 | .delete,some [m,k],t::_=>vz P G h t m k
 | .clear,some [m],t::_=>zX P G h t m
 | .recover,some [],_=>match rd with|none=>some .recover|some _=>none
 |_,_,_=>none
def uh (P:Program) (G:Nat) (rd:Option Nat) (tm:TV) (h:H) (c:Call):Option LR:=
 match c.callee with
 | .value f=>Bl P G tm h f c.args
 | .builtin b=>qm P G rd tm h b c.args c.argTypes
 |_=>none
def FI (P:Program) (G:Nat) (rd:Option Nat) (tm:TV) (h:H):Op→Option LR
 | .store t a x=>mD P G tm h t a x
 | .convert s d x=>ql P G tm h s d x
 | .mapUpdate t m k x=>iY P G tm h t m k x
 | .insert t m k x=>iY P G tm h t m k x
 | .mapEntry t m k=>nu P G tm h t m k
 | .entryStore _ m s x=>lX G tm h m s x
 | .range t x=>zW P G tm h t x
 | .defer c=>Dl G rd tm c
 | .call c=>uh P G rd tm h c
 |_=>none
def K6 (h:H) (r:Nat) (s:ByteArray) (pos:Nat):List (Value×H):=
 bif Nat.blt pos s.size then
  [(.tuple #[.bool true,.int .i64 pos,.int .i32 (Utf8.decode s pos).1],h.put r (some (.text s (pos+(Utf8.decode s pos).2))))]
 else [(.tuple #[.bool false],h)]
def leftOf (seen:List Nat) (es:List MapEntry):List MapEntry:=es.filter fun e=> !(seen.any fun b=>Nat.beq b e.born)
def Rh (G:Nat) (h:H) (r m since:Nat) (seen:List Nat) (last:Nat):Option (List (Value×H)):=
 match h.hp.get m with
 |some (.map es clock)=>
  bif (!seen.isEmpty&& !es.isEmpty&&es.all (fun e=>Nat.ble last e.born))|| !(Nat.ble G r) then none else
  bif (leftOf seen es).all (fun e=>Nat.blt e.born since) then
   bif (leftOf seen es).isEmpty then some [(.tuple #[.bool false],h)]
   else some ((leftOf seen es).map fun e=>(.tuple #[.bool true,e.key,e.val],h.put r (some (.walk (some m) since (e.born::seen) clock))))
  else none
 |_=>none
def K7 (G:Nat) (tm:TV) (h:H) (x:Operand) (str:Bool):Option (List (Value×H)):=
 match ax G tm x with
 |some (.pointer (some ⟨r,0,none⟩))=>match h.hp.get r,str with
  |some (.text s pos),true=>bif Nat.ble G r then some (K6 h r s pos) else none
  |some (.walk none _ _ _),false=>some [(.tuple #[.bool false],h)]
  |some (.walk (some m) since seen last),false=>Rh G h r m since seen last
  |_,_=>none
 |_=>none
inductive Ex where
 |normal
 |exit (id:Nat)
 |ret
inductive Task where
 |code (c:Code) (rd:Option Nat) (st:St)
 |call (f:FuncId) (args:List Value) (h:H)
inductive Out where
 |code (e:Ex) (st:St)
 |call (v:Value) (h:H)
def oP {α β:Type} (f:α→Option (List β)):List α→Option (List β)
 |[]=>some []
 |a::l=>match f a with
  |none=>none
  |some x=>match l with
   |[]=>some x
   |_::_=>match oP f l with
    |none=>none
    |some y=>some (x++y)
def iC {α β:Type} (o:Option (List α)) (f:α→Option (List β)):Option (List β):=
 match o with
 |none=>none
 |some l=>oP f l
inductive Zx where
 |reads|makes|acts|next
def cls (P:Program):Op→Zx
 | .move _=> .reads
 | .assign _=> .reads
 | .pick .. => .reads
 | .build .. => .reads
 | .load .. => .reads
 | .nilCheck _=> .reads
 | .binOp .. => .reads
 | .unOp .. => .reads
 | .makeInterface .. => .reads
 | .makeFunc .. => .reads
 | .slice .. => .reads
 | .fieldAddr .. => .reads
 | .field .. => .reads
 | .indexAddr .. => .reads
 | .index .. => .reads
 | .lookup .. => .reads
 | .extract .. => .reads
 | .entry _=> .reads
 | .convert s d _=>match P.underlying s,P.underlying d with
   |some .string,some (.slice _)=> .acts
   |some (.slice _),some (.slice _)=> .acts
   |_,_=> .reads
 | .call c=>match c.callee with
   | .builtin b=>match b with
     | .len=> .reads
     | .cap=> .reads
     | .min=> .reads
     | .max=> .reads
     |_=> .acts
   |_=> .acts
 | .alloc _=> .makes
 | .box .. => .makes
 | .buildSlice .. => .makes
 | .makeMap .. => .makes
 | .makeSlice .. => .makes
 | .next .. => .next
 |_=> .acts
structure V3 where
 v:Value
 df:List Deferred
 h:H
def Dn (st:St) (dst:Option Tmp) (r:V3):St:={tm:=iT st.sz st.tm dst r.v,sz:=st.sz,df:=r.df,h:=r.h}
def zY (sz:Nat):List (Tmp×Value)→TV→TV
 |[],t=>t
 |(p,v)::r,t=>zY sz r (iT sz t (some p) v)
def Gw (df:List Deferred) (l:Nat) (e:Ex) (s2:St):Option (List V3):=
 match s2.h.hp.get l with
 |some (.round _ _ Z0 sz2 ps2 as2 bd2)=>match e with
  | .normal=>some [⟨.bool true,df,s2.h.put l (some (.round .ready none Z0 sz2 ps2 as2 bd2))⟩]
  | .exit id=>some [⟨.bool false,df,s2.h.put l (some (.round .done (some (.exit id)) Z0 sz2 ps2 as2 bd2))⟩]
  | .ret=>some [⟨.bool false,df,s2.h.put l (some (.round .done (some .ret) Z0 sz2 ps2 as2 bd2))⟩]
 |_=>none
def Ri (df:List Deferred) (l:Nat):Out→Option (List V3)
 | .code e s2=>Gw df l e s2
 | .call _ _=>none
def Gx (ih:Task→Option (List Out)) (df:List Deferred) (l:Nat) (body:Code):Out→Option (List V3)
 | .code .normal s1=>match s1.h.hp.get l with
   |some (.round .ready pend tm1 sz1 ps1 as1 bd1)=>
    iC (ih (.code body (some l) {tm:=s1.tm,sz:=s1.sz,df:=s1.df,h:=s1.h.put l (some (.round .busy pend tm1 sz1 ps1 as1 bd1))})) (Ri df l)
   |_=>none
 |_=>none
def OE (G:Nat) (ih:Task→Option (List Out)) (h:H) (df:List Deferred) (l:Nat) (args:List Value):Option (List V3):=
 match h.hp.get l with
 |some (.round _ _ tm sz params assign body)=>
  bif Nat.beq params.size args.length&&Nat.ble G l then
   iC (ih (.code assign (some l) {tm:=zY sz (params.toList.zip args) tm,sz:=sz,df:=[],h:=h})) (Gx ih df l body)
  else none
 |_=>none
def aeh (df:List Deferred):Out→Option (List V3)
 | .call v h=>some [⟨v,df,h⟩]
 | .code _ _=>none
def Gy (G:Nat) (ih:Task→Option (List Out)) (h:H) (df:List Deferred):LR→Option (List V3)
 | .val v h1=>some [⟨v,df,h1⟩]
 | .enter f args=>iC (ih (.call f args h)) (aeh df)
 | .defer d=>some [⟨undef,d::df,h⟩]
 | .recover=>some [⟨.nilIface,df,h⟩]
 | .round l args=>OE G ih h df l args
def dZ (P:Program) (G:Nat) (ih:Task→Option (List Out)) (rd:Option Nat) (op:Op) (tm:TV) (df:List Deferred) (h:H):Option (List V3):=
 match cls P op with
 | .reads=>match mq P G tm h op with
   |some v=>some [⟨v,df,h⟩]
   |none=>none
 | .makes=>match zO P G tm h.nx op with
   |some (v,b)=>some [⟨v,df,h.new b⟩]
   |none=>none
 | .acts=>match FI P G rd tm h op with
   |some r=>Gy G ih h df r
   |none=>none
 | .next=>match op with
   | .next x str=>match K7 G tm h x str with
     |some l=>some (l.map fun p=>⟨p.1,df,p.2⟩)
     |none=>none
   |_=>none
def Bn (P:Program) (G:Nat) (ih:Task→Option (List Out)) (rd:Option Nat) (o:Oper) (st:St):Option (List St):=
 match dZ P G ih rd o.op st.tm st.df st.h with
 |some l=>some (l.map (Dn st o.dst))
 |none=>none
def dw (ops:Array Oper) (tm:TV) (o:Oper):Option Bool:=
 match o.guard with
 |none=>some true
 |some (j,want)=>match ((ops[j]?).bind (·.dst)).bind tm.get with
  |some (.bool b)=>some (b==want)
  |some (.complex _ _ _)=>none
  |some _=>some false
  |none=>none
def jG (P:Program) (G:Nat) (ih:Task→Option (List Out)) (rd:Option Nat) (ops:Array Oper):List Oper→St→Option (List St)
 |[],st=>some [st]
 |o::rest,st=>
  match dw ops st.tm o with
  |none=>none
  |some false=>jG P G ih rd ops rest (Dn st o.dst ⟨undef,st.df,st.h⟩)
  |some true=>iC (Bn P G ih rd o st) (jG P G ih rd ops rest)
inductive RK where
 |skip
 |reads
 |makes (id:Nat) (o:aJ)
 |acts (df:List Deferred) (h:H)
structure Rec where
 i:Nat
 o:Oper
 tm:TV
 k:RK
 v:Value
def aI (B:Nat) (h:H):List (Nat×Nat×aJ)→H
 |[]=>h
 |(k,id,o)::r=>
  let h1:=aI B h r
  bif Nat.testBit B k then (match h.hp.get id with|none=>{hp:=h1.hp.set id (some o),nx:=h1.nx,mw:=h1.mw} |some _=>h1) else h1
def allEq (v:Value):Option Value→Bool
 |some w=>Dg 8 v w
 |none=>false
def tmpsOf:List Operand→List Tmp
 |[]=>[]
 | .tmp t::r=>t::tmpsOf r
 |_::r=>tmpsOf r
def jH (ops:Array Oper) (o:Oper):List Tmp:=
 o.dst.toList++(tmpsOf o.op.operands.toList++(match o.guard with
  |none=>[]
  |some (j,_)=>match ops[j]? with
   |some g=>g.dst.toList
   |none=>[]))
def bound (Bs:Array Nat) (i j:Nat):Bool:=
 Nat.beq i j||(bif Nat.blt i j then Nat.testBit (Bs.getD j 0) i else Nat.testBit (Bs.getD i 0) j)
def bM (ops:Array Oper) (Bs:Array Nat):List Oper→Nat→Bool
 |[],_=>true
 |o::r,j=>(jH ops o).all (fun t=>iH Bs t j ops.toList 0)&&bM ops Bs r (j+1)
where
 iH (Bs:Array Nat) (t:Tmp) (j:Nat):List Oper→Nat→Bool
  |[],_=>true
  |o::r,i=>(match o.dst with|some d=> !(Nat.beq d t)||bound Bs i j|none=>true)&&iH Bs t j r (i+1)
def eH:List Oper→Nat→Bool
 |[],_=>true
 |o::r,i=>o.after.toList.all (fun e=> !Region.binds .any e||Nat.blt e.on i)&&eH r (i+1)
def yx (B:Nat) (o:Oper):Bool:=
 match o.guard with
 |none=>true
 |some (j,_)=>Nat.testBit B j
structure Dr where
 tm:TV
 df:List Deferred
 h:H
 as:List (Nat×Nat×aJ)
 es:List Nat
 rs:List Rec
def iZ:Op→Bool
 | .move _=>true
 | .assign _=>true
 | .pick .. =>true
 | .build .. =>true
 | .nilCheck _=>true
 | .binOp .. =>true
 | .unOp .. =>true
 | .makeInterface .. =>true
 | .makeFunc .. =>true
 | .slice .. =>true
 | .fieldAddr .. =>true
 | .field .. =>true
 | .indexAddr .. =>true
 | .index .. =>true
 | .extract .. =>true
 |_=>false
def mQ:Op→Bool
 | .store .. =>true
 |_=>false
def lY (bq:Nat) (h h1:H):Nat→Bool
 |0=>true
 |k+1=>(match h.hp.get (bq+k) with|none=>true|some _=>(h1.hp.get (bq+k)).isSome)&&lY bq h h1 k
def zZ (n bq sz i:Nat) (o:Oper) (h0:H) (d:Dr):Option (List V3)→Option Dr
 |some [r]=>
  bif mQ o.op||lY bq h0 r.h n then
   some {tm:=iT sz d.tm o.dst r.v,df:=r.df,h:=r.h,as:=d.as,es:=i::d.es,rs:=⟨i,o,d.tm,.acts r.df r.h,r.v⟩::d.rs}
  else none
 |_=>none
def jU (P:Program) (G:Nat) (ih:Task→Option (List Out)) (rd:Option Nat) (sz:Nat) (ops:Array Oper) (Bs:Array Nat) (bq:Nat) (i:Nat) (o:Oper) (d:Dr):Option Dr:=
 bif yx (Bs.getD i 0) o then
  match dw ops d.tm o with
  |none=>none
  |some false=>some {tm:=iT sz d.tm o.dst undef,df:=d.df,h:=d.h,as:=d.as,es:=d.es,rs:=⟨i,o,d.tm,.skip,undef⟩::d.rs}
  |some true=>
   match cls P o.op with
   | .reads=>match mq P G d.tm (aI (Bs.getD i 0) d.h d.as) o.op with
     |some v=>some {tm:=iT sz d.tm o.dst v,df:=d.df,h:=d.h,as:=d.as,es:=d.es,rs:=⟨i,o,d.tm,.reads,v⟩::d.rs}
     |none=>none
   | .makes=>match zO P G d.tm (bq+i) o.op with
     |some (v,b)=>some {tm:=iT sz d.tm o.dst v,df:=d.df,h:=d.h,as:=(i,bq+i,b)::d.as,es:=d.es,rs:=⟨i,o,d.tm,.makes (bq+i) b,v⟩::d.rs}
     |none=>none
   |_=>bif d.es.all (fun e=>Nat.testBit (Bs.getD i 0) e) then
     zZ ops.size bq sz i o (aI (Bs.getD i 0) d.h d.as) d (dZ P G ih rd o.op d.tm d.df (aI (Bs.getD i 0) d.h d.as))
    else none
 else none
def uj (P:Program) (G:Nat) (ih:Task→Option (List Out)) (rd:Option Nat) (sz:Nat) (ops:Array Oper) (Bs:Array Nat) (bq:Nat):List Oper→Nat→Dr→Option Dr
 |[],_,d=>some d
 |o::rest,i,d=>match jU P G ih rd sz ops Bs bq i o d with
  |some d'=>uj P G ih rd sz ops Bs bq rest (i+1) d'
  |none=>none
structure eG where
 i:Nat
 df:List Deferred
 h:H
def aP:List Rec→List eG→List eG
 |[],acc=>acc
 |r::rs,acc=>match r.k with
  | .acts df h=>aP rs (⟨r.i,df,h⟩::acc)
  |_=>aP rs acc
def oQ (P:Program) (G:Nat) (B:Nat) (h:H) (as:List (Nat×Nat×aJ)) (r:Rec) (rest:List eG):Bool:=
 rest.any (fun e=>Nat.testBit B e.i)||allEq r.v (mq P G r.tm (aI B h as) r.o.op)
def fG (P:Program) (G:Nat) (Bs:Array Nat) (B:Nat) (as:List (Nat×Nat×aJ)) (r:Rec):List eG→H→Bool
 |[],h=>oQ P G B h as r []
 |e::rest,h=>oQ P G B h as r (e::rest)&&(Nat.testBit (Bs.getD e.i 0) r.i||fG P G Bs B as r rest e.h)
def gF (P:Program) (G:Nat) (Bs:Array Nat) (as:List (Nat×Nat×aJ)) (st:List eG) (h0:H):List Rec→Bool
 |[]=>true
 |r::rs=>(match r.k with| .reads=>iZ r.o.op||fG P G Bs (Bs.getD r.i 0) as r st h0|_=>true)&&gF P G Bs as st h0 rs
def mR (P:Program) (G:Nat) (ih:Task→Option (List Out)) (rd:Option Nat) (ops:Array Oper) (st:St):Option St:=
 let Bs:=Region.before ops
 bif eH ops.toList 0&&bM ops Bs ops.toList 0 then
  match uj P G ih rd st.sz ops Bs st.h.nx ops.toList 0 {tm:=st.tm,df:=st.df,h:={hp:=st.h.hp,nx:=st.h.nx+ops.size,mw:=st.h.mw},as:=[],es:=[],rs:=[]} with
  |some d=>
   bif gF P G Bs d.as (aP d.rs []) {hp:=st.h.hp,nx:=st.h.nx+ops.size,mw:=st.h.mw} d.rs then
    some {tm:=d.tm,sz:=st.sz,df:=d.df,h:=aI (2^ops.size-1) d.h d.as}
   else none
  |none=>none
 else none
def jk (G:Nat) (tm:TV):Op→Option (Nat×Nat×List Value)
 | .store _ a x=>match ax G tm a,ax G tm x with
   |some (.pointer (some ⟨i,k,none⟩)),some v=>some (i,k,v.cells.toList)
   |_,_=>none
 |_=>none
def nU (x y:Nat×Nat×List Value):Bool:=
 !(Nat.beq x.1 y.1)||(Nat.ble (x.2.1+x.2.2.length) y.2.1||Nat.ble (y.2.1+y.2.2.length) x.2.1)
def fU (G:Nat) (t:Nat×Nat×List Value) (h:H):H:=match h.write G t.1 t.2.1 t.2.2 with|some h'=>h'|none=>h
def Bo (G B:Nat) (t:Nat×Nat×List Value):List Rec→Bool
 |[]=>true
 |r::rs=>(match r.k with| .acts _ _=>Nat.testBit B r.i||(match jk G r.tm r.o.op with|some t'=>nU t t'|none=>false)|_=>true)&&Bo G B t rs
def oU (P:Program) (G:Nat) (Bs:Array Nat) (B:Nat) (as:List (Nat×Nat×aJ)) (st:List eG) (h0:H):List Rec→Bool
 |[]=>true
 |r::rs=>(match r.k with| .reads=>Nat.testBit B r.i||(iZ r.o.op||fG P G Bs (Bs.getD r.i 0) as r st h0)|_=>true)&&oU P G Bs B as st h0 rs
def wW (P:Program) (G:Nat) (Bs:Array Nat) (B:Nat) (as:List (Nat×Nat×aJ)) (h0:H) (r:Rec) (rs:List Rec):Bool:=
 match r.k,jk G r.tm r.o.op with
 | .acts _ _,some t=>
   (h0::(aP rs []).map (·.h)).all (fun h=>(h.write G t.1 t.2.1 t.2.2).isSome)&&(Bo G B t rs&&
     oU P G Bs B as ((aP rs []).map fun e=>⟨e.i,e.df,fU G t e.h⟩) (fU G t h0) rs)
 |_,_=>false
def jL (P:Program) (G:Nat) (ih:Task→Option (List Out)) (rd:Option Nat) (ops:Array Oper) (st:St):Option St:=
 let Bs:=Region.before ops
 let s:=ops.size-1
 let h0:H:={hp:=st.h.hp,nx:=st.h.nx+ops.size,mw:=st.h.mw}
 bif eH ops.toList 0&&bM ops Bs ops.toList 0 then
  match uj P G ih rd st.sz ops (Bs.setIfInBounds s (2^s-1)) st.h.nx ops.toList 0 {tm:=st.tm,df:=st.df,h:=h0,as:=[],es:=[],rs:=[]} with
  |some d=>match d.rs with
   |r::rs=>bif gF P G Bs d.as (aP d.rs []) h0 d.rs&&wW P G Bs (Bs.getD s 0) d.as h0 r rs then
     some {tm:=d.tm,sz:=st.sz,df:=d.df,h:=aI (2^ops.size-1) d.h d.as}
    else none
   |[]=>none
  |none=>none
 else none
def jM (P:Program) (G:Nat) (ih:Task→Option (List Out)) (rd:Option Nat) (ops:Array Oper) (st:St):Option St:=
 match mR P G ih rd ops st with
 |some s=>some s
 |none=>jL P G ih rd ops st
def ja (P:Program) (tm:TV) (h:H):List ResultVar→Option (List Value)
 |[]=>some []
 | .tmp t::r=>match tm.get t,ja P tm h r with
   |some v,some l=>some (v::l)
   |_,_=>none
 | .cell a t::r=>match tm.get a,ja P tm h r with
   |some (.pointer (some ⟨i,k,none⟩)),some l=>(h.yj P t i k).map (· ::l)
   |_,_=>none
def BV:List Value→Value
 |[v]=>v
 |l=> .tuple l.toArray
def mE (P:Program) (G:Nat) (ih:Task→Option (List Out)) (fn:Func) (tm:TV):List Deferred→H→Option (List (Value×H))
 |[],h=>(ja P tm h fn.results.toList).map fun l=>[(BV l,h)]
 |d::ds,h=>
  match d.target with
  | .collected b=>match h.hp.get b with
    |some (.defs true)=>bif Nat.ble G b then mE P G ih fn tm ds (h.put b (some (.defs false))) else none
    |_=>none
  | .fn (.func g) captured=>
    match P.funcs[g]? with
    |some gn=>match gn.body with
     |some _=>iC (ih (.call g (d.args.toList++captured.toList) h)) fun
       | .call _ h1=>mE P G ih fn tm ds h1
       | .code _ _=>none
     |none=>none
    |none=>none
  |_=>none
def sameAll (v:Value) (lim:Nat):List (Value×H)→Bool
 |[]=>true
 |(w,h)::r=>Dg 8 v w&&Nat.ble lim h.mw&&sameAll v lim r
def merge (h0:H):List (Value×H)→Option (List Out)
 |[]=>none
 |[(v,h)]=>some [.call v {h with mw:=bif Nat.ble h0.mw h.mw then h0.mw else h.mw}]
 |(v,h)::r=>bif af 8 v&&sameAll v h0.nx ((v,h)::r) then some [.call v h0] else none
def far:Nat:=1152921504606846976
def Dp:List Value→Nat→TV→TV
 |[],_,t=>t
 |v::r,i,t=>Dp r (i+1) (t.set i (some v))
def IA (P:Program) (G:Nat) (ih:Task→Option (List Out)) (fn:Func):Out→Option (List (Value×H))
 | .code .normal st=>mE P G ih fn st.tm st.df st.h
 | .code .ret st=>mE P G ih fn st.tm st.df st.h
 |_=>none
def nV (P:Program) (G:Nat) (ih:Task→Option (List Out)) (f:FuncId) (args:List Value) (h:H):Option (List Out):=
 match P.funcs[f]? with
 |some fn=>match fn.body with
  |some c=>
   bif Nat.ble args.length fn.ntmps then
    match iC (ih (.code c none {tm:=Dp args 0 .e,sz:=fn.ntmps,df:=[],h:={h with mw:=far}})) (IA P G ih fn) with
    |some l=>merge h l
    |none=>none
   else none
  |none=>none
 |none=>none
def oV (ih:Task→Option (List Out)) (b:Code) (rd:Option Nat):Out→Option (List Out)
 | .code .normal s=>ih (.code b rd s)
 |o=>some [o]
def vB (id:Nat):Out→Option (List Out)
 | .code (.exit j) s=>bif Nat.beq j id then some [.code .normal s] else some [.code (.exit j) s]
 |o=>some [o]
def yA (G:Nat) (ih:Task→Option (List Out)) (rd:Option Nat) (st:St) (c:Operand) (a b:Code):Option (List Out):=
 match ax G st.tm c with
 |some (.bool true)=>ih (.code a rd st)
 |some (.bool false)=>ih (.code b rd st)
 |_=>none
def IB:St→Option (List Out):=fun s=>some [.code .normal s]
def kZ (P:Program) (G:Nat) (ih:Task→Option (List Out)) (rd:Option Nat) (st:St) (ops:Array Oper) (draw:Bool):Option (List Out):=
 bif draw then (match jM P G ih rd ops st with|some s=>some [.code .normal s]|none=>none)
 else iC (jG P G ih rd ops ops.toList st) IB
def K8 (st:St) (df:List Deferred) (l:Nat):Out→Option (List Out)
 | .call _ h2=>match h2.hp.get l with
   |some (.round s pend tm sz ps as bd)=>
    match s,pend with
    | .busy,_=>none
    |_,none=>some [.code .normal {st with df:=df,h:=h2.put l (some (.round .exhausted pend tm sz ps as bd))}]
    |_,some (.exit id)=>some [.code (.exit id) {st with df:=df,h:=h2.put l (some (.round .exhausted pend tm sz ps as bd))}]
    |_,some .ret=>some [.code .ret {st with df:=df,h:=h2.put l (some (.round .exhausted pend tm sz ps as bd))}]
    |_,_=>none
   |_=>none
 | .code _ _=>none
def BX (ih:Task→Option (List Out)) (st:St) (g:FuncId) (first captured:Array Value) (params:Array Tmp) (assign body:Code) (h1:H) (df:List Deferred):Option (List Out):=
 iC (ih (.call g (first.toList++[.func (.yield h1.nx) #[] #[]]++captured.toList) (h1.new (.round .ready none st.tm st.sz params assign body)))) (K8 st df h1.nx)
def vC (P:Program) (G:Nat) (ih:Task→Option (List Out)) (rd:Option Nat) (st:St) (f:Operand) (params:Array Tmp) (assign body:Code):Option (List Out):=
 match ax G st.tm f with
 |some (.func (.func g) first captured)=>
  match P.funcs[g]? with
  |some gn=>match gn.body,rd with
   |some _,some l=>match st.h.hp.get l with
    |some (.round ..)=>BX ih st g first captured params assign body st.h st.df
    |_=>none
   |some _,none=>BX ih st g first captured params assign body (st.h.new (.defs true)) ({target:= .collected st.h.nx,args:=#[]}::st.df)
   |none,_=>none
  |none=>none
 |_=>none
def yB (P:Program) (G:Nat) (ih:Task→Option (List Out)) (rd:Option Nat) (st:St):Code→Option (List Out)
 | .skip=>some [.code .normal st]
 | .label _=>some [.code .normal st]
 | .region _ ops draw=>kZ P G ih rd st ops draw
 | .seq a b=>iC (ih (.code a rd st)) (oV ih b rd)
 | .cond c a b=>yA G ih rd st c a b
 | .block id body=>iC (ih (.code body rd st)) (vB id)
 | .loop body=>iC (ih (.code body rd st)) (oV ih (.loop body) rd)
 | .scope body=>ih (.code body rd st)
 | .exit id=>some [.code (.exit id) st]
 | .ret=>some [.code .ret st]
 | .rangeFunc f params assign body=>vC P G ih rd st f params assign body
 |_=>none
def L2 {α β:Type} (R:α→β→Prop) (l:List α) (m:List β):Prop:=l.length=m.length∧∀ (i:Nat) x y,l[i]? =some x→m[i]? =some y→R x y
section
variable {α β:Type} {R S:α→β→Prop}
theorem L2.nil:L2 R ([]:List α) ([]:List β):=⟨rfl,fun i x y h=>by simp at h⟩
theorem L2.cons {a:α} {b:β} {l:List α} {m:List β} (h:R a b) (t:L2 R l m):L2 R (a::l) (b::m):=
 ⟨by simp [t.1],fun i x y hx hy=>by cases i with
   |zero=>simp at hx hy;subst hx hy;exact h
   |succ i=>exact t.2 i x y (by simpa using hx) (by simpa using hy)⟩
theorem L2.head {a:α} {b:β} {l:List α} {m:List β} (h:L2 R (a::l) (b::m)):R a b:=h.2 0 a b rfl rfl
theorem L2.tail {a:α} {b:β} {l:List α} {m:List β} (h:L2 R (a::l) (b::m)):L2 R l m:=
 ⟨by have:=h.1;simpa using this,fun i x y hx hy=>h.2 (i+1) x y (by simpa using hx) (by simpa using hy)⟩
theorem L2.mono {l:List α} {m:List β} (h:L2 R l m) (k:∀ x y,R x y→S x y):L2 S l m:=⟨h.1,fun i x y hx hy=>k _ _ (h.2 i x y hx hy)⟩
theorem L2.get {l:List α} {m:List β} (h:L2 R l m) {i:Nat} {x:α} (hx:l[i]? =some x):∃ y,m[i]? =some y∧R x y:=by
 have hi:i<m.length:=by rw [←h.1];exact (List.getElem?_eq_some_iff.1 hx).1
 exact ⟨m[i],List.getElem?_eq_getElem hi,h.2 i x _ hx (List.getElem?_eq_getElem hi)⟩
theorem L2.take {l:List α} {m:List β} (h:L2 R l m) (n:Nat):L2 R (l.take n) (m.take n):=
 ⟨by simp [h.1],fun i x y hx hy=>by
   rw [List.getElem?_take] at hx hy
   by_cases hi:i<n
   ·rw [if_pos hi] at hx hy;exact h.2 i x y hx hy
   ·rw [if_neg hi] at hx;simp at hx⟩
theorem L2.drop {l:List α} {m:List β} (h:L2 R l m) (n:Nat):L2 R (l.drop n) (m.drop n):=
 ⟨by simp [h.1],fun i x y hx hy=>h.2 (n+i) x y (by simpa using hx) (by simpa using hy)⟩
theorem L2.append {l l':List α} {m m':List β} (h:L2 R l m) (h':L2 R l' m'):L2 R (l++l') (m++m'):=
 ⟨by simp [h.1,h'.1],fun i x y hx hy=>by
   by_cases hi:i<l.length
   ·rw [List.getElem?_append_left hi] at hx
    rw [List.getElem?_append_left (by rw [←h.1];exact hi)] at hy
    exact h.2 i x y hx hy
   ·rw [List.getElem?_append_right (by omega)] at hx
    rw [List.getElem?_append_right (by rw [←h.1];omega),←h.1] at hy
    exact h'.2 _ x y hx hy⟩
theorem L2.set {l:List α} {m:List β} (h:L2 R l m) (i:Nat) {a:α} {b:β} (hr:R a b):L2 R (l.set i a) (m.set i b):=
 ⟨by simp [h.1],fun j x y hx hy=>by
   rw [List.getElem?_set] at hx hy
   by_cases hj:i=j
   ·subst hj
    by_cases hl:i<l.length
    ·rw [if_pos rfl,if_pos hl] at hx;rw [if_pos rfl,if_pos (by rw [←h.1];exact hl)] at hy
     cases hx;cases hy;exact hr
    ·rw [if_pos rfl,if_neg hl] at hx;cases hx
   ·rw [if_neg hj] at hx hy;exact h.2 j x y hx hy⟩
theorem L2.bZ {m:List β} (h:L2 R ([]:List α) m):m=[]:=List.length_eq_zero_iff.1 (by rw [←h.1];rfl)
theorem L2.Gz {l:List α} (h:L2 R l ([]:List β)):l=[]:=List.length_eq_zero_iff.1 (by rw [h.1];rfl)
theorem L2.aL {a:α} {l:List α} {m:List β} (h:L2 R (a::l) m):∃ b t,m=b::t∧R a b∧L2 R l t:=by
 cases m with
 |nil=>have:=h.1;simp at this
 |cons b t=>exact ⟨b,t,rfl,h.head,h.tail⟩
theorem L2.eq {l m:List α} {Q:α→α→Prop} (h:L2 Q l m) (k:∀ x y,Q x y→x∈l→x=y):l=m:=by
 apply List.ext_getElem?;intro i
 cases hx:l[i]? with
 |none=>
  have:m.length≤i:=by rw [←h.1];exact List.getElem?_eq_none_iff.1 hx
  rw [List.getElem?_eq_none this]
 |some x=>obtain ⟨y,hy,r⟩:=h.get hx;rw [hy,k x y r (List.mem_of_getElem? hx)]
end
abbrev Ren:=Nat→Nat×Nat×Nat
def mJ (z o c c':Nat):Prop:=if iO c=true then c'=jK c else jK c≤c'∧o+c'*lH c≤z
def In (n:Nat) (ρ:Ren) (i:Nat):Prop:=i<n∧(ρ i).2.1≤(ρ i).2.2
class aa where
 eta:Nat→Value
 one:∀ j,(eta j).oneCell'=true
def ahd (r:Nat) (v:Value):Prop:=r=0∨∃ z,v= .int .i64 z∧(r/4%18446744073709551616:Int)≤z+9223372036854775808∧z+9223372036854775808≤(r/73786976294838206464:Nat)
variable [aa]
inductive VR (n:Nat) (ρ:Ren):Value→Value→Prop
 |letter (k:FloatKind) (r j:Nat) (h:ahd r (aa.eta j)):VR n ρ (.complex k r j) (aa.eta j)
 |bool (b:Bool):VR n ρ (.bool b) (.bool b)
 |int (k:IntKind) (m:Int):VR n ρ (.int k m) (.int k m)
 |float (k:FloatKind) (m:Nat):VR n ρ (.float k m) (.float k m)
 |string (s:ByteArray):VR n ρ (.string s) (.string s)
 |wX:VR n ρ (.pointer none) (.pointer none)
 |ptr (i k:Nat) (h:In n ρ i):VR n ρ (.pointer (some ⟨i,k,none⟩)) (.pointer (some ⟨(ρ i).1,(ρ i).2.1+k,none⟩))
 |kG (a b:Nat):VR n ρ (.slice none a b) (.slice none a b)
 |slice (i k l c c':Nat) (h:In n ρ i) (hc:mJ (ρ i).2.2 ((ρ i).2.1+k) c c'):VR n ρ (.slice (some ⟨i,k,none⟩) l c) (.slice (some ⟨(ρ i).1,(ρ i).2.1+k,none⟩) l c')
 |wY:VR n ρ (.map none) (.map none)
 |map (i:Nat) (h:In n ρ i):VR n ρ (.map (some i)) (.map (some (ρ i).1))
 |func (f:FuncId) (a a' b b':Array Value) (ha:a.toList.length=a'.toList.length) (hA:∀ (i:Nat) x y,a.toList[i]? =some x→a'.toList[i]? =some y→VR n ρ x y)
   (hb:b.toList.length=b'.toList.length) (hB:∀ (i:Nat) x y,b.toList[i]? =some x→b'.toList[i]? =some y→VR n ρ x y):VR n ρ (.func (.func f) a b) (.func (.func f) a' b')
 |yield (i:Nat) (h:In n ρ i):VR n ρ (.func (.yield i) #[] #[]) (.func (.yield (ρ i).1) #[] #[])
 |nilFunc:VR n ρ .nilFunc .nilFunc
 |iface (t:TypeId) (v v':Value) (h:VR n ρ v v'):VR n ρ (.iface t v) (.iface t v')
 |nilIface:VR n ρ .nilIface .nilIface
 |agg (a a':Array Value) (ha:a.toList.length=a'.toList.length) (hA:∀ (i:Nat) x y,a.toList[i]? =some x→a'.toList[i]? =some y→VR n ρ x y):VR n ρ (.agg a) (.agg a')
 |tuple (a a':Array Value) (ha:a.toList.length=a'.toList.length) (hA:∀ (i:Nat) x y,a.toList[i]? =some x→a'.toList[i]? =some y→VR n ρ x y):VR n ρ (.tuple a) (.tuple a')
abbrev V2 (n:Nat) (ρ:Ren):=L2 (VR n ρ)
theorem VR.agg' {n:Nat} {ρ:Ren} {a a':Array Value} (h:V2 n ρ a.toList a'.toList):VR n ρ (.agg a) (.agg a'):= .agg a a' h.1 h.2
theorem VR.tuple' {n:Nat} {ρ:Ren} {a a':Array Value} (h:V2 n ρ a.toList a'.toList):VR n ρ (.tuple a) (.tuple a'):= .tuple a a' h.1 h.2
theorem VR.func' {n:Nat} {ρ:Ren} {f:FuncId} {a a' b b':Array Value} (h:V2 n ρ a.toList a'.toList) (k:V2 n ρ b.toList b'.toList):VR n ρ (.func (.func f) a b) (.func (.func f) a' b'):= .func f a a' b b' h.1 h.2 k.1 k.2
def Agree (n:Nat) (ρ ρ':Ren):Prop:=∀ i,In n ρ i→ρ' i=ρ i
omit [aa] in
theorem Agree.refl (n:Nat) (ρ:Ren):Agree n ρ ρ:=fun _ _=>rfl
omit [aa] in
theorem In.mono {n m:Nat} {ρ σ:Ren} {i:Nat} (h:In n ρ i) (hn:n≤m) (hσ:Agree n ρ σ):In m σ i:=⟨Nat.lt_of_lt_of_le h.1 hn,by rw [hσ i h];exact h.2⟩
omit [aa] in
theorem Agree.trans {n m:Nat} {ρ σ τ:Ren} (h:Agree n ρ σ) (k:Agree m σ τ) (hn:n≤m):Agree n ρ τ:=fun i hi=>(k i (hi.mono hn h)).trans (h i hi)
theorem VR.mono {n m:Nat} {ρ σ:Ren} (hn:n≤m) (hσ:Agree n ρ σ) {v v':Value} (h:VR n ρ v v'):VR m σ v v':=by
 induction h with
 |letter k r j h=>exact .letter k r j h
 |bool b=>exact .bool b
 |int k q=>exact .int k q
 |float k q=>exact .float k q
 |string s=>exact .string s
 |wX=>exact .wX
 |ptr i k h=>have:=hσ i h;rw [←this];exact .ptr i k (h.mono hn hσ)
 |kG a b=>exact .kG a b
 |slice i k l c c' h hc=>have:=hσ i h;rw [←this] at hc ⊢;exact .slice i k l c c' (h.mono hn hσ) hc
 |wY=>exact .wY
 |map i h=>have:=hσ i h;rw [←this];exact .map i (h.mono hn hσ)
 |func f a a' b b' ha _ hb _ ihA ihB=>exact .func f a a' b b' ha ihA hb ihB
 |yield i h=>have:=hσ i h;rw [←this];exact .yield i (h.mono hn hσ)
 |nilFunc=>exact .nilFunc
 |iface t v v' _ ih=>exact .iface t v v' ih
 |nilIface=>exact .nilIface
 |agg a a' ha _ ih=>exact .agg a a' ha ih
 |tuple a a' ha _ ih=>exact .tuple a a' ha ih
omit [aa] in
theorem Ti {v:Value} (h:v.oneCell'=true):v.cells.toList=[v]:=by cases v<;>first|rfl|cases h
theorem VR.cells {n:Nat} {ρ:Ren} {v v':Value} (h:VR n ρ v v'):V2 n ρ v.cells.toList v'.cells.toList:=by
 cases h with
 |letter k r j h=>rw [Ti (aa.one j)];exact L2.cons (.letter k r j h) L2.nil
 |agg a a' ha hA=>exact ⟨ha,hA⟩
 |bool b=>exact L2.cons (.bool b) L2.nil
 |int k q=>exact L2.cons (.int k q) L2.nil
 |float k q=>exact L2.cons (.float k q) L2.nil
 |string s=>exact L2.cons (.string s) L2.nil
 |wX=>exact L2.cons .wX L2.nil
 |ptr i k h=>exact L2.cons (.ptr i k h) L2.nil
 |kG a b=>exact L2.cons (.kG a b) L2.nil
 |slice i k l c c' h hc=>exact L2.cons (.slice i k l c c' h hc) L2.nil
 |wY=>exact L2.cons .wY L2.nil
 |map i h=>exact L2.cons (.map i h) L2.nil
 |func f a a' b b' ha hA hb hB=>exact L2.cons (.func f a a' b b' ha hA hb hB) L2.nil
 |yield i h=>exact L2.cons (.yield i h) L2.nil
 |nilFunc=>exact L2.cons .nilFunc L2.nil
 |iface t v v' h=>exact L2.cons (.iface t v v' h) L2.nil
 |nilIface=>exact L2.cons .nilIface L2.nil
 |tuple a a' ha hA=>exact L2.cons (.tuple a a' ha hA) L2.nil
theorem VR.Dq {n:Nat} {ρ:Ren} {v v':Value} (h:VR n ρ v v'):v'.cells.size=v.cells.size:=by
 have:=h.cells.1;simpa using this.symm
theorem VR.oneCell {n:Nat} {ρ:Ren} {v v':Value} (h:VR n ρ v v') (h1:CE.oneCell v=true):(∀ a,v'≠ .agg a)∧(∀ a,v'≠ .tuple a):=by
 cases h with
 |letter k r j h=>
  have:=aa.one j
  exact ⟨fun a e=>(by rw [e] at this;cases this),fun a e=>(by rw [e] at this;cases this)⟩
 |_=>simp_all [CE.oneCell]
theorem nW {n:Nat} {ρ:Ren}:∀ (m:Nat) (v v':Value),af m v=true→VR n ρ v v'→v'=v:=by
 intro m
 induction m with
 |zero=>intro v v' h;simp [af] at h
 |succ m ih=>
  have all:∀ (a a':Array Value),a.toList.all (af m)=true→V2 n ρ a.toList a'.toList→a'=a:=by
   intro a a' h k
   have:a.toList=a'.toList:=L2.eq k (fun x y r hx=>(ih x y (List.all_eq_true.1 h x hx) r).symm)
   exact Array.toList_inj.1 this.symm
  intro v v' h r
  cases r with
  |iface t x x' hx=>rw [ih x x' (by simpa [af] using h) hx]
  |agg a a' ha hA=>rw [all a a' (by simpa [af] using h) ⟨ha,hA⟩]
  |tuple a a' ha hA=>rw [all a a' (by simpa [af] using h) ⟨ha,hA⟩]
  |func f a a' b b' ha hA hb hB=>
   simp only [af,Bool.and_eq_true] at h
   rw [all a a' h.1 ⟨ha,hA⟩,all b b' h.2 ⟨hb,hB⟩]
  |_=>first|rfl|simp [af] at h
theorem eO {n:Nat} {ρ:Ren}:∀ (m:Nat) (v:Value),af m v=true→VR n ρ v v:=by
 intro m
 induction m with
 |zero=>intro v h;simp [af] at h
 |succ m ih=>
  have all:∀ (a:Array Value),a.toList.all (af m)=true→V2 n ρ a.toList a.toList:=by
   intro a h
   refine ⟨rfl,fun i x y hx hy=>?_⟩
   rw [hx] at hy;cases hy
   exact ih x (List.all_eq_true.1 h x (List.mem_of_getElem? hx))
  intro v h
  cases v with
  |bool b=>exact .bool b
  |int k q=>exact .int k q
  |float k q=>exact .float k q
  |complex k a b=>simp [af] at h
  |string s=>exact .string s
  |pointer a=>cases a with
   |none=>exact .wX
   |some a=>simp [af] at h
  |slice a l c=>cases a with
   |none=>exact .kG l c
   |some a=>simp [af] at h
  |map a=>cases a with
   |none=>exact .wY
   |some a=>simp [af] at h
  |chan a=>simp [af] at h
  |func fn a b=>cases fn with
   |func f=>simp only [af,Bool.and_eq_true] at h;exact VR.func' (all a h.1) (all b h.2)
   |_=>simp [af] at h
  |nilFunc=>exact .nilFunc
  |iface t x=>exact .iface t x x (ih x (by simpa [af] using h))
  |nilIface=>exact .nilIface
  |agg a=>exact VR.agg' (all a (by simpa [af] using h))
  |tuple a=>exact VR.tuple' (all a (by simpa [af] using h))
theorem VR.undef {n:Nat} {ρ:Ren}:VR n ρ undef undef:=VR.tuple' L2.nil
end Go.CE
namespace Go.CE
open Go Go.RowKit
variable [aa]
def oI (n:Nat) (ρ:Ren) (e e':MapEntry):Prop:=VR n ρ e.key e'.key∧VR n ρ e.val e'.val∧e'.born=e.born
def TR (n:Nat) (ρ:Ren) (tm:TV) (tmps:Array Value):Prop:=∀ t v,tm.get t=some v→∃ v',tmps[t]? =some v'∧VR n ρ v v'
inductive jV (n:Nat) (ρ:Ren) (i:Nat):aJ→Obj→Prop
 |cells (cs:List Value) (c:Array Value) (e:TypeId) (fz:Nat×Nat) (hz:c.size=(ρ i).2.2) (hl:(ρ i).2.1+cs.length≤c.size)
   (hv:∀ j x,cs[j]? =some x→∃ y,c[(ρ i).2.1+j]? =some y∧VR n ρ x y) (hf:fz.1=fz.2∨c.size≤fz.1):jV n ρ i (.cells cs) (.cells c e fz)
 |map (es:List MapEntry) (clock:Nat) (es':Array MapEntry) (hm:L2 (oI n ρ) es es'.toList):jV n ρ i (.map es clock) (.map es' clock)
 |text (s:ByteArray) (p:Nat) (h0:(ρ i).2.1=0):jV n ρ i (.text s p) (.stringIter s p)
 |GA (a c:Nat) (b:List Nat) (h0:(ρ i).2.1=0):jV n ρ i (.walk none a b c) (.mapIter none a b.reverse.toArray c)
 |walk (m since:Nat) (seen:List Nat) (stepped:Nat) (h:In n ρ m) (h0:(ρ i).2.1=0):jV n ρ i (.walk (some m) since seen stepped) (.mapIter (some (ρ m).1) since seen.reverse.toArray stepped)
 |round (st:LoopState) (pend:Option Code) (tm:TV) (tmps:Array Value) (params:Array Tmp) (assign body:Code) (fn:FuncId) (d:Nat) (ht:TR n ρ tm tmps):
   jV n ρ i (.round st pend tm tmps.size params assign body) (.loop {state:=st,pending:=pend,fn,tmps,params,assign,body,defers:=d})
 |defs (b:Bool):jV n ρ i (.defs b) (.deferred (if b=true then some [] else none))
theorem TR.mono {n m:Nat} {ρ σ:Ren} {tm:TV} {tmps:Array Value} (h:TR n ρ tm tmps) (hn:n≤m) (hσ:Agree n ρ σ):TR m σ tm tmps:=
 fun t v ht=>let ⟨v',h1,h2⟩:=h t v ht;⟨v',h1,h2.mono hn hσ⟩
theorem oI.mono {n m:Nat} {ρ σ:Ren} {e e':MapEntry} (h:oI n ρ e e') (hn:n≤m) (hσ:Agree n ρ σ):oI m σ e e':=⟨h.1.mono hn hσ,h.2.1.mono hn hσ,h.2.2⟩
theorem jV.mono {n m:Nat} {ρ σ:Ren} {i:Nat} {o:aJ} {ob:Obj} (h:jV n ρ i o ob) (hi:In n ρ i) (hn:n≤m) (hσ:Agree n ρ σ):jV m σ i o ob:=by
 have e:=hσ i hi
 cases h with
 |cells cs c ty fz hz hl hv hf=>
  rw [←e] at hz hl hv
  exact .cells cs c ty fz hz hl (fun j x hx=>let ⟨y,h1,h2⟩:=hv j x hx;⟨y,h1,h2.mono hn hσ⟩) hf
 |map es clock es' hm=>exact .map es clock es' (hm.mono fun _ _ h=>h.mono hn hσ)
 |text s p h0=>exact .text s p (by rw [e];exact h0)
 |GA a c b h0=>exact .GA a c b (by rw [e];exact h0)
 |walk k since seen stepped h h0=>have:=hσ k h;rw [←this];exact .walk k since seen stepped (h.mono hn hσ) (by rw [e];exact h0)
 |round st pend tm tmps params assign body fn d ht=>exact .round st pend tm tmps params assign body fn d (ht.mono hn hσ)
 |defs b=>exact .defs b
structure HR (G:Nat) (h:H) (ρ:Ren) (w:World):Prop where
 obj:∀ i o,h.hp.get i=some o→In h.nx ρ i∧∃ ob,w.heap[(ρ i).1]? =some ob∧jV h.nx ρ i o ob
 inj:∀ i j,h.hp.get i≠none→h.hp.get j≠none→(ρ i).1=(ρ j).1→i=j
 jI:∀ g,g<G→(ρ g).1=g∧(ρ g).2.1=0
 bound:G≤h.nx
structure Tr (G:Nat) (h h':H) (ρ ρ':Ren) (w w':World):Prop where
 nx:h.nx≤h'.nx
 agree:Agree h.nx ρ ρ'
 os:w'.os=w.os
 tape:w'.tape=w.tape
 output:w'.output=w.output
 size:w.heap.size≤w'.heap.size
 block:∀ b,b<w.heap.size→(∀ i,G≤i→h.hp.get i≠none→(ρ i).1≠b)→w'.heap[b]? =w.heap[b]?
 own:∀ i,G≤i→h'.hp.get i≠none→(∃ j,G≤j∧h.hp.get j≠none∧(ρ j).1=(ρ' i).1)∨w.heap.size≤(ρ' i).1
 mw:h'.mw≤h.mw
 same:∀ i,In h.nx ρ i→i<h'.mw→h'.hp.get i=h.hp.get i
 glo:∀ i,i<G→h'.hp.get i=h.hp.get i
 keep:∀ i,i<h.nx→ρ' i=ρ i
omit [aa] in
theorem Tr.refl (G:Nat) (h:H) (ρ:Ren) (w:World):Tr G h h ρ ρ w w:=
 ⟨Nat.le_refl _,Agree.refl _ _,rfl,rfl,rfl,Nat.le_refl _,fun _ _ _=>rfl,fun i hi hl=> .inl ⟨i,hi,hl,rfl⟩,Nat.le_refl _,fun _ _ _=>rfl,fun _ _=>rfl,fun _ _=>rfl⟩
omit [aa] in
theorem Tr.trans {G:Nat} {h h1 h2:H} {ρ ρ1 ρ2:Ren} {w w1 w2:World} (a:Tr G h h1 ρ ρ1 w w1) (b:Tr G h1 h2 ρ1 ρ2 w1 w2):Tr G h h2 ρ ρ2 w w2:=by
 refine ⟨Nat.le_trans a.nx b.nx,a.agree.trans b.agree a.nx,b.os.trans a.os,b.tape.trans a.tape,b.output.trans a.output,Nat.le_trans a.size b.size,?_,?_,Nat.le_trans b.mw a.mw,?_,fun i hi=>(b.glo i hi).trans (a.glo i hi),fun i hi=>(b.keep i (Nat.lt_of_lt_of_le hi a.nx)).trans (a.keep i hi)⟩
 ·intro k hk hno
  rw [←a.block k hk hno]
  refine b.block k (Nat.lt_of_lt_of_le hk a.size) ?_
  intro i hi hl e
  rcases a.own i hi hl with ⟨j,hj,hjl,hje⟩|hf
  ·exact hno j hj hjl (hje.trans e)
  ·omega
 ·intro i hi hl
  rcases b.own i hi hl with ⟨j,hj,hjl,hje⟩|hf
  ·rcases a.own j hj hjl with ⟨k,hk,hkl,hke⟩|hf
   ·exact .inl ⟨k,hk,hkl,hke.trans hje⟩
   ·exact .inr (by rw [←hje];exact hf)
  ·exact .inr (Nat.le_trans a.size hf)
 ·intro i hi hm
  rw [b.same i (hi.mono a.nx a.agree) hm]
  exact a.same i hi (Nat.lt_of_lt_of_le hm b.mw)
def upd (ρ:Ren) (i:Nat) (x:Nat×Nat×Nat):Ren:=fun j=>if j=i then x else ρ j
omit [aa] in
theorem upd_same (ρ:Ren) (i:Nat) (x:Nat×Nat×Nat):upd ρ i x i=x:=by simp [upd]
omit [aa] in
theorem aS {ρ:Ren} {i j:Nat} (x:Nat×Nat×Nat) (h:j≠i):upd ρ i x j=ρ j:=by simp [upd,h]
omit [aa] in
theorem lu (ρ:Ren) (n:Nat) (x:Nat×Nat×Nat):Agree n ρ (upd ρ n x):=fun i hi=>aS x (by have:=hi.1;omega)
theorem HR.lt {G:Nat} {h:H} {ρ:Ren} {w:World} (a:HR G h ρ w) {i:Nat} {o:aJ} (hi:h.hp.get i=some o):(ρ i).1<w.heap.size:=by
 obtain ⟨_,ob,h1,_⟩:=a.obj i o hi
 exact (Array.getElem?_eq_some_iff.1 h1).1
omit [aa] in
theorem dP {α:Type} {o:Option α} {x:α} (h:o=some x):o≠none:=by rw [h];simp
omit [aa] in
theorem bW {α:Type} {o:Option α} (h:o≠none):∃ x,o=some x:=by cases o with|none=>exact absurd rfl h|some x=>exact ⟨x,rfl⟩
theorem HR.drew {G:Nat} {h:H} {ρ:Ren} {w w':World} (a:HR G h ρ w) (hh:w'.heap=w.heap):HR G h ρ w':=
 ⟨fun i o hi=>by rw [hh];exact a.obj i o hi,a.inj,a.jI,a.bound⟩
omit [aa] in
theorem Tr.drew (G:Nat) (h:H) (ρ:Ren) {w w':World} (hh:w'.heap=w.heap) (ho:w'.os=w.os) (ht:w'.tape=w.tape) (hu:w'.output=w.output):Tr G h h ρ ρ w w':=
 ⟨Nat.le_refl _,Agree.refl _ _,ho,ht,hu,by rw [hh];exact Nat.le_refl _,fun _ _ _=>by rw [hh],fun i hi hl=> .inl ⟨i,hi,hl,rfl⟩,Nat.le_refl _,fun _ _ _=>rfl,fun _ _=>rfl,fun _ _=>rfl⟩
theorem HR.new {G:Nat} {h:H} {ρ:Ren} {w:World} (a:HR G h ρ w) (o:aJ) (ob:Obj) (z:Nat)
 (ho:jV (h.nx+1) (upd ρ h.nx (w.heap.size,0,z)) h.nx o ob):
 HR G (h.new o) (upd ρ h.nx (w.heap.size,0,z)) (w.alloc ob)∧Tr G h (h.new o) ρ (upd ρ h.nx (w.heap.size,0,z)) w (w.alloc ob):=by
 have hag:=lu ρ h.nx (w.heap.size,0,z)
 have hget:∀ i,(h.new o).hp.get i=if i=h.nx then some o else h.hp.get i:=fun i=>TH.fT _ _ _ _
 have hnone:h.hp.get h.nx=none:=by
  cases hc:h.hp.get h.nx with
  |none=>rfl
  |some x=>have:=(a.obj _ _ hc).1.1;omega
 constructor
 ·refine ⟨?_,?_,?_,?_⟩
  ·intro i x hx
   rw [hget] at hx
   by_cases e:i=h.nx
   ·subst e
    rw [if_pos rfl] at hx;cases hx
    refine ⟨⟨Nat.lt_succ_self _,by rw [upd_same];exact Nat.zero_le _⟩,ob,?_,ho⟩
    rw [upd_same]
    show (w.heap.push ob)[w.heap.size]? =some ob
    simp
   ·rw [if_neg e] at hx
    obtain ⟨hi,VH,h1,h2⟩:=a.obj i x hx
    refine ⟨hi.mono (Nat.le_succ _) hag,VH,?_,h2.mono hi (Nat.le_succ _) hag⟩
    rw [aS _ e,Below.heap_alloc _ _ _ (a.lt hx)]
    exact h1
  ·intro i j hi hj e
   rw [hget] at hi hj
   by_cases ei:i=h.nx<;>by_cases ej:j=h.nx
   ·rw [ei,ej]
   ·subst ei
    rw [upd_same,aS _ ej] at e
    rw [if_neg ej] at hj
    obtain ⟨x,hx⟩:=bW hj
    have:=a.lt hx;simp at e;omega
   ·subst ej
    rw [upd_same,aS _ ei] at e
    rw [if_neg ei] at hi
    obtain ⟨x,hx⟩:=bW hi
    have:=a.lt hx;simp at e;omega
   ·rw [aS _ ei,aS _ ej] at e
    rw [if_neg ei] at hi;rw [if_neg ej] at hj
    exact a.inj i j hi hj e
  ·intro g hg
   have hb:=a.bound
   rw [aS _ (by omega)]
   exact a.jI g hg
  ·exact Nat.le_succ_of_le a.bound
 ·refine ⟨Nat.le_succ _,hag,rfl,rfl,rfl,by simp,?_,?_,Nat.le_refl _,?_,?_,fun i hi=>aS _ (by omega)⟩
  ·intro b hb _;exact Below.heap_alloc _ _ _ hb
  ·intro i hi hl
   rw [hget] at hl
   by_cases e:i=h.nx
   ·subst e;rw [upd_same];exact .inr (Nat.le_refl _)
   ·rw [if_neg e] at hl;rw [aS _ e];exact .inl ⟨i,hi,hl,rfl⟩
  ·intro i hi _;rw [hget,if_neg (by have:=hi.1;omega)]
  ·intro i hi;have hb:=a.bound;rw [hget,if_neg (by omega)]
theorem HR.put {G:Nat} {h:H} {ρ:Ren} {w w':World} (a:HR G h ρ w) {i:Nat} {o:aJ} (hi:h.hp.get i=some o) (hG:G≤i) (o':aJ) {ob:Obj}
 (hs:w'.heap.size=w.heap.size) (hb:∀ b,b≠(ρ i).1→w'.heap[b]? =w.heap[b]?) (hn:w'.heap[(ρ i).1]? =some ob) (hos:w'.os=w.os) (ht:w'.tape=w.tape) (hout:w'.output=w.output)
 (ho:jV h.nx ρ i o' ob):HR G (h.put i (some o')) ρ w'∧Tr G h (h.put i (some o')) ρ ρ w w':=by
 have hget:∀ j,(h.put i (some o')).hp.get j=if j=i then some o' else h.hp.get j:=fun j=>TH.fT _ _ _ _
 constructor
 ·refine ⟨?_,?_,a.jI,a.bound⟩
  ·intro j x hx
   rw [hget] at hx
   by_cases e:j=i
   ·subst e;rw [if_pos rfl] at hx;cases hx
    exact ⟨(a.obj _ _ hi).1,ob,hn,ho⟩
   ·rw [if_neg e] at hx
    obtain ⟨hj,VH,h1,h2⟩:=a.obj j x hx
    refine ⟨hj,VH,?_,h2⟩
    rw [hb _ (fun e'=>e (a.inj j i (dP hx) (dP hi) e'))];exact h1
  ·intro j k hj hk e
   rw [hget] at hj hk
   refine a.inj j k ?_ ?_ e
   ·by_cases ej:j=i
    ·subst ej;exact dP hi
    ·rwa [if_neg ej] at hj
   ·by_cases ek:k=i
    ·subst ek;exact dP hi
    ·rwa [if_neg ek] at hk
 ·refine ⟨Nat.le_refl _,Agree.refl _ _,hos,ht,hout,by rw [hs];exact Nat.le_refl _,?_,?_,?_,?_,?_,fun _ _=>rfl⟩
  ·intro b _ hno;exact hb b (fun e=>hno i hG (dP hi) e.symm)
  ·intro j hj hl
   rw [hget] at hl
   refine .inl ⟨j,hj,?_,rfl⟩
   by_cases ej:j=i
   ·subst ej;exact dP hi
   ·rwa [if_neg ej] at hl
  ·show (bif Nat.ble i h.mw then i else h.mw)≤h.mw
   cases hc:Nat.ble i h.mw with
   |true=>exact Nat.le_of_ble_eq_true hc
   |false=>exact Nat.le_refl _
  ·intro j _ hm
   rw [hget,if_neg]
   intro e;subst e
   have:j<(bif Nat.ble j h.mw then j else h.mw):=hm
   cases hc:Nat.ble j h.mw with
   |true=>rw [hc] at this;exact absurd this (Nat.lt_irrefl _)
   |false=>
    rw [hc] at this
    have h1:j<h.mw:=this
    have h2:=Nat.ble_eq_true_of_le (Nat.le_of_lt h1)
    rw [hc] at h2;cases h2
  ·intro j hj;rw [hget,if_neg (by omega)]
theorem HR.drop {G:Nat} {h:H} {ρ:Ren} {w:World} (a:HR G h ρ w) (i:Nat) (hG:G≤i):HR G (h.put i none) ρ w∧Tr G h (h.put i none) ρ ρ w w:=by
 have hget:∀ j,(h.put i none).hp.get j=if j=i then none else h.hp.get j:=fun j=>TH.fT _ _ _ _
 constructor
 ·refine ⟨?_,?_,a.jI,a.bound⟩
  ·intro j x hx
   rw [hget] at hx
   by_cases e:j=i
   ·rw [if_pos e] at hx;cases hx
   ·rw [if_neg e] at hx;exact a.obj j x hx
  ·intro j k hj hk e
   rw [hget] at hj hk
   refine a.inj j k ?_ ?_ e
   ·intro hn;apply hj;split<;>simp_all
   ·intro hn;apply hk;split<;>simp_all
 ·refine ⟨Nat.le_refl _,Agree.refl _ _,rfl,rfl,rfl,Nat.le_refl _,fun _ _ _=>rfl,?_,?_,?_,?_,fun _ _=>rfl⟩
  ·intro j hj hl
   rw [hget] at hl
   refine .inl ⟨j,hj,?_,rfl⟩
   intro hn;apply hl;split<;>simp_all
  ·show (bif Nat.ble i h.mw then i else h.mw)≤h.mw
   cases hc:Nat.ble i h.mw with
   |true=>exact Nat.le_of_ble_eq_true hc
   |false=>exact Nat.le_refl _
  ·intro j _ hm
   rw [hget,if_neg]
   intro e;subst e
   have:j<(bif Nat.ble j h.mw then j else h.mw):=hm
   cases hc:Nat.ble j h.mw with
   |true=>rw [hc] at this;exact absurd this (Nat.lt_irrefl _)
   |false=>
    rw [hc] at this
    have h1:j<h.mw:=this
    have h2:=Nat.ble_eq_true_of_le (Nat.le_of_lt h1)
    rw [hc] at h2;cases h2
  ·intro j hj;rw [hget,if_neg (by omega)]
end Go.CE
