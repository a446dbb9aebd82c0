/- Words for walks: 'Ext w W': the world W is w with blocks added (and orders drawn); facts on cells that hold in every such world. -/
import Derived.Test.YtjbnabjjbofhjaaDoorWWords
import Derived.WalkKit
import Derived.KernelRfl
import Derived.Test.YtjbnabjjbofhjaaDoorProg
import Derived.Deep.QuietTactic
import Derived.BigQuiet
import Derived.Lib.Hide
import Derived.Shelf.Abstract
import Derived.Deep.LoopGhost
import Derived.Deep.DeepCutAuto
set_option linter.unusedVariables false
set_option linter.unusedSimpArgs false
namespace Go.Proofs.YtjbnabjjbofhjaaDoor.Fes
open Go.RowKit Go.Proofs.YtjbnabjjbofhjaaDoorW.PrintWords

/-- What is added to a world. -/
structure Xt where
  os : Array Obj
  d : Nat
instance : Inhabited Xt := ⟨⟨#[], 0⟩⟩
def xt (w : World) (x : Xt) : World := { w with heap := w.heap ++ x.os, drawn := x.d }
structure Ext (w W : World) : Prop where
  mk ::
  b : Below w.heap.size w W

theorem Ext.refl (w : World) : Ext w w := ⟨Below.refl _ _⟩
theorem Ext.trans {a b c : World} (h : Ext a b) (k : Ext b c) : Ext a c := ⟨below_then h.b h.b.size k.b⟩
theorem Ext.alloc {w W : World} (h : Ext w W) (o : Obj) : Ext w (W.alloc o) := ⟨below_alloc h.b o⟩
theorem Ext.drew {w W : World} (h : Ext w W) : Ext w W.drew := ⟨below_drew h.b⟩
theorem Ext.drewN {w W : World} (h : Ext w W) (n : Nat) : Ext w (W.drewN n) := ⟨pw_below_drewN h.b n⟩
theorem Ext.size {w W : World} (h : Ext w W) : w.heap.size ≤ W.heap.size := h.b.size
theorem Ext.cell {w W : World} (h : Ext w W) {a : Addr} {v : Value} (hc : w.cell? a = some v) : W.cell? a = some v := pw_cell_below h.b hc
theorem Ext.C {α : Type} {d : Kd α} {w W : World} (h : Ext w W) {A : Option Addr} {n : Nat} {xs : List α} (hc : Kd.C d w A n xs) : Kd.C d W A n xs := Kd.C_below hc h.b
theorem Ext.K {α : Type} {d : Kd α} {w W : World} (h : Ext w W) {x : α} {cs : List Value} (hc : d.K w x cs) : d.K W x cs := d.K_below h.b hc
theorem Ext.of_xt (w : World) (x : Xt) : Ext w (xt w x) := ⟨rfl, rfl, rfl, by simp [xt], fun k hk => by simp only [xt]; rw [Array.getElem?_append_left hk]⟩
theorem Ext.to_xt {w W : World} (h : Ext w W) : ∃ x, W = xt w x := by
  obtain ⟨h1, h2, h3, h4, h5⟩ := h.b
  refine ⟨⟨W.heap.extract w.heap.size W.heap.size, W.drawn⟩, ?_⟩
  have hh : W.heap = w.heap ++ W.heap.extract w.heap.size W.heap.size := by
    apply Array.ext_getElem?
    intro i
    rcases Nat.lt_or_ge i w.heap.size with hi | hi
    · rw [Array.getElem?_append_left hi, h5 i hi]
    · rw [Array.getElem?_append_right hi, Array.getElem?_extract]
      split
      · congr 1; omega
      · rw [Array.getElem?_eq_none (by omega)]
  cases W
  simp only at h1 h2 h3 hh ⊢
  subst h1 h2 h3
  simp only [xt]
  congr 1
attribute [go_sem] Ext.refl
@[go_sem] theorem Ext.f0_1 {w W : World} (h : Ext w W) : Ext w (W.drew) := (Ext.drew h)
@[go_sem] theorem Ext.g0_1 (w : World) : Ext w (w.drew) := (Ext.drew (Ext.refl w))
@[go_sem] theorem Ext.f0_2 {w W : World} (n : Nat) (h : Ext w W) : Ext w (W.drewN n) := (Ext.drewN h n)
@[go_sem] theorem Ext.g0_2 (w : World) (n : Nat) : Ext w (w.drewN n) := (Ext.drewN (Ext.refl w) n)
@[go_sem] theorem Ext.f0_3 {w W : World} (x : Xt) (h : Ext w W) : Ext w (xt W x) := (Ext.trans h (Ext.of_xt _ x))
@[go_sem] theorem Ext.g0_3 (w : World) (x : Xt) : Ext w (xt w x) := (Ext.trans (Ext.refl w) (Ext.of_xt _ x))
@[go_sem] theorem Ext.f1_0 {w W : World} (o0 : Obj) (h : Ext w W) : Ext w ((W.alloc o0)) := (Ext.alloc h o0)
@[go_sem] theorem Ext.g1_0 (w : World) (o0 : Obj) : Ext w ((w.alloc o0)) := (Ext.alloc (Ext.refl w) o0)
@[go_sem] theorem Ext.f1_1 {w W : World} (o0 : Obj) (h : Ext w W) : Ext w ((W.alloc o0).drew) := (Ext.drew (Ext.alloc h o0))
@[go_sem] theorem Ext.g1_1 (w : World) (o0 : Obj) : Ext w ((w.alloc o0).drew) := (Ext.drew (Ext.alloc (Ext.refl w) o0))
@[go_sem] theorem Ext.f1_2 {w W : World} (o0 : Obj) (n : Nat) (h : Ext w W) : Ext w ((W.alloc o0).drewN n) := (Ext.drewN (Ext.alloc h o0) n)
@[go_sem] theorem Ext.g1_2 (w : World) (o0 : Obj) (n : Nat) : Ext w ((w.alloc o0).drewN n) := (Ext.drewN (Ext.alloc (Ext.refl w) o0) n)
@[go_sem] theorem Ext.f1_3 {w W : World} (o0 : Obj) (x : Xt) (h : Ext w W) : Ext w (xt (W.alloc o0) x) := (Ext.trans (Ext.alloc h o0) (Ext.of_xt _ x))
@[go_sem] theorem Ext.g1_3 (w : World) (o0 : Obj) (x : Xt) : Ext w (xt (w.alloc o0) x) := (Ext.trans (Ext.alloc (Ext.refl w) o0) (Ext.of_xt _ x))
@[go_sem] theorem Ext.f2_0 {w W : World} (o0 o1 : Obj) (h : Ext w W) : Ext w (((W.alloc o0).alloc o1)) := (Ext.alloc (Ext.alloc h o0) o1)
@[go_sem] theorem Ext.g2_0 (w : World) (o0 o1 : Obj) : Ext w (((w.alloc o0).alloc o1)) := (Ext.alloc (Ext.alloc (Ext.refl w) o0) o1)
@[go_sem] theorem Ext.f2_1 {w W : World} (o0 o1 : Obj) (h : Ext w W) : Ext w (((W.alloc o0).alloc o1).drew) := (Ext.drew (Ext.alloc (Ext.alloc h o0) o1))
@[go_sem] theorem Ext.g2_1 (w : World) (o0 o1 : Obj) : Ext w (((w.alloc o0).alloc o1).drew) := (Ext.drew (Ext.alloc (Ext.alloc (Ext.refl w) o0) o1))
@[go_sem] theorem Ext.f2_2 {w W : World} (o0 o1 : Obj) (n : Nat) (h : Ext w W) : Ext w (((W.alloc o0).alloc o1).drewN n) := (Ext.drewN (Ext.alloc (Ext.alloc h o0) o1) n)
@[go_sem] theorem Ext.g2_2 (w : World) (o0 o1 : Obj) (n : Nat) : Ext w (((w.alloc o0).alloc o1).drewN n) := (Ext.drewN (Ext.alloc (Ext.alloc (Ext.refl w) o0) o1) n)
@[go_sem] theorem Ext.f2_3 {w W : World} (o0 o1 : Obj) (x : Xt) (h : Ext w W) : Ext w (xt ((W.alloc o0).alloc o1) x) := (Ext.trans (Ext.alloc (Ext.alloc h o0) o1) (Ext.of_xt _ x))
@[go_sem] theorem Ext.g2_3 (w : World) (o0 o1 : Obj) (x : Xt) : Ext w (xt ((w.alloc o0).alloc o1) x) := (Ext.trans (Ext.alloc (Ext.alloc (Ext.refl w) o0) o1) (Ext.of_xt _ x))
@[go_sem] theorem Ext.f3_0 {w W : World} (o0 o1 o2 : Obj) (h : Ext w W) : Ext w ((((W.alloc o0).alloc o1).alloc o2)) := (Ext.alloc (Ext.alloc (Ext.alloc h o0) o1) o2)
@[go_sem] theorem Ext.g3_0 (w : World) (o0 o1 o2 : Obj) : Ext w ((((w.alloc o0).alloc o1).alloc o2)) := (Ext.alloc (Ext.alloc (Ext.alloc (Ext.refl w) o0) o1) o2)
@[go_sem] theorem Ext.f3_1 {w W : World} (o0 o1 o2 : Obj) (h : Ext w W) : Ext w ((((W.alloc o0).alloc o1).alloc o2).drew) := (Ext.drew (Ext.alloc (Ext.alloc (Ext.alloc h o0) o1) o2))
@[go_sem] theorem Ext.g3_1 (w : World) (o0 o1 o2 : Obj) : Ext w ((((w.alloc o0).alloc o1).alloc o2).drew) := (Ext.drew (Ext.alloc (Ext.alloc (Ext.alloc (Ext.refl w) o0) o1) o2))
@[go_sem] theorem Ext.f3_2 {w W : World} (o0 o1 o2 : Obj) (n : Nat) (h : Ext w W) : Ext w ((((W.alloc o0).alloc o1).alloc o2).drewN n) := (Ext.drewN (Ext.alloc (Ext.alloc (Ext.alloc h o0) o1) o2) n)
@[go_sem] theorem Ext.g3_2 (w : World) (o0 o1 o2 : Obj) (n : Nat) : Ext w ((((w.alloc o0).alloc o1).alloc o2).drewN n) := (Ext.drewN (Ext.alloc (Ext.alloc (Ext.alloc (Ext.refl w) o0) o1) o2) n)
@[go_sem] theorem Ext.f3_3 {w W : World} (o0 o1 o2 : Obj) (x : Xt) (h : Ext w W) : Ext w (xt (((W.alloc o0).alloc o1).alloc o2) x) := (Ext.trans (Ext.alloc (Ext.alloc (Ext.alloc h o0) o1) o2) (Ext.of_xt _ x))
@[go_sem] theorem Ext.g3_3 (w : World) (o0 o1 o2 : Obj) (x : Xt) : Ext w (xt (((w.alloc o0).alloc o1).alloc o2) x) := (Ext.trans (Ext.alloc (Ext.alloc (Ext.alloc (Ext.refl w) o0) o1) o2) (Ext.of_xt _ x))
@[go_sem] theorem Ext.f4_0 {w W : World} (o0 o1 o2 o3 : Obj) (h : Ext w W) : Ext w (((((W.alloc o0).alloc o1).alloc o2).alloc o3)) := (Ext.alloc (Ext.alloc (Ext.alloc (Ext.alloc h o0) o1) o2) o3)
@[go_sem] theorem Ext.g4_0 (w : World) (o0 o1 o2 o3 : Obj) : Ext w (((((w.alloc o0).alloc o1).alloc o2).alloc o3)) := (Ext.alloc (Ext.alloc (Ext.alloc (Ext.alloc (Ext.refl w) o0) o1) o2) o3)
@[go_sem] theorem Ext.f4_1 {w W : World} (o0 o1 o2 o3 : Obj) (h : Ext w W) : Ext w (((((W.alloc o0).alloc o1).alloc o2).alloc o3).drew) := (Ext.drew (Ext.alloc (Ext.alloc (Ext.alloc (Ext.alloc h o0) o1) o2) o3))
@[go_sem] theorem Ext.g4_1 (w : World) (o0 o1 o2 o3 : Obj) : Ext w (((((w.alloc o0).alloc o1).alloc o2).alloc o3).drew) := (Ext.drew (Ext.alloc (Ext.alloc (Ext.alloc (Ext.alloc (Ext.refl w) o0) o1) o2) o3))
@[go_sem] theorem Ext.f4_2 {w W : World} (o0 o1 o2 o3 : Obj) (n : Nat) (h : Ext w W) : Ext w (((((W.alloc o0).alloc o1).alloc o2).alloc o3).drewN n) := (Ext.drewN (Ext.alloc (Ext.alloc (Ext.alloc (Ext.alloc h o0) o1) o2) o3) n)
@[go_sem] theorem Ext.g4_2 (w : World) (o0 o1 o2 o3 : Obj) (n : Nat) : Ext w (((((w.alloc o0).alloc o1).alloc o2).alloc o3).drewN n) := (Ext.drewN (Ext.alloc (Ext.alloc (Ext.alloc (Ext.alloc (Ext.refl w) o0) o1) o2) o3) n)
@[go_sem] theorem Ext.f4_3 {w W : World} (o0 o1 o2 o3 : Obj) (x : Xt) (h : Ext w W) : Ext w (xt ((((W.alloc o0).alloc o1).alloc o2).alloc o3) x) := (Ext.trans (Ext.alloc (Ext.alloc (Ext.alloc (Ext.alloc h o0) o1) o2) o3) (Ext.of_xt _ x))
@[go_sem] theorem Ext.g4_3 (w : World) (o0 o1 o2 o3 : Obj) (x : Xt) : Ext w (xt ((((w.alloc o0).alloc o1).alloc o2).alloc o3) x) := (Ext.trans (Ext.alloc (Ext.alloc (Ext.alloc (Ext.alloc (Ext.refl w) o0) o1) o2) o3) (Ext.of_xt _ x))
@[go_sem] theorem Ext.f5_0 {w W : World} (o0 o1 o2 o3 o4 : Obj) (h : Ext w W) : Ext w ((((((W.alloc o0).alloc o1).alloc o2).alloc o3).alloc o4)) := (Ext.alloc (Ext.alloc (Ext.alloc (Ext.alloc (Ext.alloc h o0) o1) o2) o3) o4)
@[go_sem] theorem Ext.g5_0 (w : World) (o0 o1 o2 o3 o4 : Obj) : Ext w ((((((w.alloc o0).alloc o1).alloc o2).alloc o3).alloc o4)) := (Ext.alloc (Ext.alloc (Ext.alloc (Ext.alloc (Ext.alloc (Ext.refl w) o0) o1) o2) o3) o4)
@[go_sem] theorem Ext.f5_1 {w W : World} (o0 o1 o2 o3 o4 : Obj) (h : Ext w W) : Ext w ((((((W.alloc o0).alloc o1).alloc o2).alloc o3).alloc o4).drew) := (Ext.drew (Ext.alloc (Ext.alloc (Ext.alloc (Ext.alloc (Ext.alloc h o0) o1) o2) o3) o4))
@[go_sem] theorem Ext.g5_1 (w : World) (o0 o1 o2 o3 o4 : Obj) : Ext w ((((((w.alloc o0).alloc o1).alloc o2).alloc o3).alloc o4).drew) := (Ext.drew (Ext.alloc (Ext.alloc (Ext.alloc (Ext.alloc (Ext.alloc (Ext.refl w) o0) o1) o2) o3) o4))
@[go_sem] theorem Ext.f5_2 {w W : World} (o0 o1 o2 o3 o4 : Obj) (n : Nat) (h : Ext w W) : Ext w ((((((W.alloc o0).alloc o1).alloc o2).alloc o3).alloc o4).drewN n) := (Ext.drewN (Ext.alloc (Ext.alloc (Ext.alloc (Ext.alloc (Ext.alloc h o0) o1) o2) o3) o4) n)
@[go_sem] theorem Ext.g5_2 (w : World) (o0 o1 o2 o3 o4 : Obj) (n : Nat) : Ext w ((((((w.alloc o0).alloc o1).alloc o2).alloc o3).alloc o4).drewN n) := (Ext.drewN (Ext.alloc (Ext.alloc (Ext.alloc (Ext.alloc (Ext.alloc (Ext.refl w) o0) o1) o2) o3) o4) n)
@[go_sem] theorem Ext.f5_3 {w W : World} (o0 o1 o2 o3 o4 : Obj) (x : Xt) (h : Ext w W) : Ext w (xt (((((W.alloc o0).alloc o1).alloc o2).alloc o3).alloc o4) x) := (Ext.trans (Ext.alloc (Ext.alloc (Ext.alloc (Ext.alloc (Ext.alloc h o0) o1) o2) o3) o4) (Ext.of_xt _ x))
@[go_sem] theorem Ext.g5_3 (w : World) (o0 o1 o2 o3 o4 : Obj) (x : Xt) : Ext w (xt (((((w.alloc o0).alloc o1).alloc o2).alloc o3).alloc o4) x) := (Ext.trans (Ext.alloc (Ext.alloc (Ext.alloc (Ext.alloc (Ext.alloc (Ext.refl w) o0) o1) o2) o3) o4) (Ext.of_xt _ x))
theorem Ext.set {w W : World} (h : Ext w W) {p : Addr} (hp : w.heap.size ≤ p.block) (u : Value) : Ext w (W.setCell p u) := ⟨h.b.setCell hp u⟩

theorem size_xt (w : World) (x : Xt) : (xt w x).heap.size = w.heap.size + x.os.size := by simp [xt]
theorem cell?_xt_past (w : World) (x : Xt) (n i : Nat) (h : n < w.heap.size) : (xt w x).cell? ⟨n, i, none⟩ = w.cell? ⟨n, i, none⟩ := (Ext.of_xt w x).b.cell (p := ⟨n, i, none⟩) h
theorem frozen?_xt_past (w : World) (x : Xt) (n i : Nat) (h : n < w.heap.size) : (xt w x).frozen? ⟨n, i, none⟩ = w.frozen? ⟨n, i, none⟩ := (Ext.of_xt w x).b.frozen (p := ⟨n, i, none⟩) h
theorem setCell_xt_past (w : World) (x : Xt) (n i : Nat) (v : Value) (h : n < w.heap.size) : (xt w x).setCell ⟨n, i, none⟩ v = xt (w.setCell ⟨n, i, none⟩ v) x := by
  simp only [xt, World.setCell]
  congr 1
  apply Array.ext_getElem?
  intro j
  simp only [Array.getElem?_modify, Array.getElem?_append, Array.size_modify]
  by_cases hj : n = j
  · subst hj; simp [h]
  · simp [hj]

/-- A fact on a cell, for every world that is an extension. -/
theorem stays {w : World} {a : Addr} {v : Value} (h : w.cell? a = some v) : ∀ W, Ext w W → W.cell? a = some v := fun W hW => hW.cell h
theorem Ext.of_ex {w W : World} (h : ∃ x, W = xt w x) : Ext w W := by obtain ⟨x, rfl⟩ := h; exact Ext.of_xt _ _
/-- The class of worlds of a region that draws its order. -/
theorem wp_region_ext {P : Program} {id : Nat} {Q : Exit → Act → World → Prop} {a : Act} {w W : World} {l : List Oper} (hm : P.follows .mixedOrders = true) (hB : Region.lexB .any l.toArray = true) (hW : Ext w W)
    (h : wpQuiet P l.toArray (fun w' => ∃ x, w' = xt w x) (fun a' => ∀ w', (∃ x, w' = xt w x) → Q .normal a' w') l a) : (Code.region id l.toArray true).wp P Q a W :=
  wp_region_quiet (C := fun w' => ∃ x, w' = xt w x) hm hB (Ext.to_xt hW.drew) (by simpa using h)
/-- A world in which block g is another one. -/
def setB (w : World) (g : Nat) (o : Obj) : World := { w with heap := w.heap.setIfInBounds g o }
@[simp] theorem size_setB (w : World) (g : Nat) (o : Obj) : (setB w g o).heap.size = w.heap.size := by simp [setB]
theorem cell?_setB (w : World) (g : Nat) (o : Obj) (n i : Nat) (h : n ≠ g) : (setB w g o).cell? ⟨n, i, none⟩ = w.cell? ⟨n, i, none⟩ := by
  simp only [World.cell?, setB, Array.getElem?_setIfInBounds]
  rw [if_neg (fun e => h e.symm)]
theorem frozen?_setB (w : World) (g : Nat) (o : Obj) (n i : Nat) (h : n ≠ g) : (setB w g o).frozen? ⟨n, i, none⟩ = w.frozen? ⟨n, i, none⟩ := by
  simp only [World.frozen?, setB, Array.getElem?_setIfInBounds]
  rw [if_neg (fun e => h e.symm)]
theorem ne_xt {w : World} {n : Nat} (x : Xt) (h : n < w.heap.size) : (n = (xt w x).heap.size) = False := by rw [size_xt]; simp; omega
theorem grown_xt {W w1 : World} {g : Nat} (h : W.grownBy w1 (some g)) : ∃ o x, w1 = xt (setB W g o) x := by
  refine ⟨(w1.heap[g]?).getD (.cells #[] 0 (0, 0)), ?_⟩
  apply Ext.to_xt
  refine ⟨⟨h.os, h.tape, h.output, by simpa using h.size, fun k hk => ?_⟩⟩
  rw [size_setB] at hk
  have hs := h.size
  by_cases hg : k = g
  · subst hg
    simp only [setB]
    rw [Array.getElem?_setIfInBounds_self_of_lt hk, Array.getElem?_eq_getElem (by omega)]
    simp
  · rw [h.block k hk (by simpa using hg)]
    simp only [setB, Array.getElem?_setIfInBounds]
    rw [if_neg (fun e => hg e.symm)]
theorem quiet_call {P : Program} {f : FuncId} {args : Array Value} {w : World} {x : Xt} {v : Value}
    (h : Calls P f args (xt w x) fun e w' => e = .returned v ∧ Ext (xt w x) w') : Calls P f args (xt w x) fun e w'' => e = .returned v ∧ ∃ y, w'' = xt w y :=
  h.mono fun _ _ ⟨he, hx⟩ => ⟨he, ((Ext.of_xt w x).trans hx).to_xt⟩
theorem beqI (a b : Int) : (a == b) = decide (a = b) := by by_cases h : a = b <;> simp [h]
theorem ret_bool {a b : Bool} (h : a = b) : Ending.returned (.bool a) = .returned (.bool b) := by rw [h]
theorem ret_ext {e e' : Ending} {w W W' : World} (he : e = e') (h : Ext w W) (h' : Ext W W') : e = e' ∧ Ext w W' := ⟨he, h.trans h'⟩
theorem ret_int {k : IntKind} {a b : Int} (h : a = b) : Ending.returned (.int k a) = .returned (.int k b) := by rw [h]
end Go.Proofs.YtjbnabjjbofhjaaDoor.Fes
