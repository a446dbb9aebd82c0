/- Package shape: what each function answers, by plain Lean functions. -/
import Derived.Test.YtjbnabjjbofhjaaDoorW03
import Derived.Test.YtjbnabjjbofhjaaDoorEqs
set_option linter.unusedVariables false
set_option linter.unusedSimpArgs false
namespace Go.Proofs.YtjbnabjjbofhjaaDoor.Fes
open Go.RowKit Go.Proofs.YtjbnabjjbofhjaaDoorW.PrintWords
attribute [local go_sem high] eqA_End eqA_has

structure Has where
  a : Bool
  b : Bool
  n : Bool
  args : Bool
  froms : Bool
  ans : Bool
def hasL : List Has := [⟨false, false, false, false, false, false⟩, ⟨false, false, true, false, false, true⟩, ⟨false, false, false, false, false, true⟩, ⟨false, false, true, false, false, true⟩,
  ⟨true, true, false, false, false, true⟩, ⟨true, true, false, false, false, true⟩, ⟨true, true, false, false, false, true⟩, ⟨true, true, false, false, false, true⟩, ⟨true, true, false, false, false, true⟩, ⟨true, true, false, false, false, true⟩, ⟨true, true, false, false, false, true⟩,
  ⟨false, false, false, false, false, true⟩, ⟨false, false, false, false, false, true⟩, ⟨true, false, false, false, false, false⟩, ⟨true, false, true, false, false, true⟩, ⟨true, true, false, false, false, true⟩, ⟨true, false, false, false, false, true⟩, ⟨true, true, false, false, false, false⟩,
  ⟨false, false, true, true, false, true⟩, ⟨true, false, false, true, false, true⟩, ⟨false, false, false, false, false, true⟩, ⟨true, false, false, false, false, false⟩, ⟨false, false, false, true, true, true⟩]
def noHas : Has := ⟨false, false, false, false, false, false⟩
def hasOf (op : Int) : Has := hasL.getD op.toNat noHas
def hasCells (h : Has) : List Value := [.bool h.a, .bool h.b, .bool h.n, .bool h.args, .bool h.froms, .bool h.ans]
/-- The package's table lies where its variable is. -/
def Tab (w : World) : Prop := ∀ (k : Nat) (hk : k < 23) (j : Nat) (v : Value), (hasCells (hasL.getD k noHas))[j]? = some v → w.cell? ⟨0, k * 6 + j, none⟩ = some v
theorem Tab.ext {w W : World} (h : Tab w) (he : Ext w W) : Tab W := fun k hk j v hv => he.cell (h k hk j v hv)

set_option maxHeartbeats 400000 in
theorem hasOf_c (op : Int) (h0 : 0 ≤ op) (h1 : op ≤ 255) (w : World) (hT : Tab w) :
    Calls Tryd.prog 79 #[.int .u8 op] w fun e w' => e = .returned (.agg (hasCells (hasOf op)).toArray) ∧ Ext w w' := by
  obtain ⟨k, rfl⟩ := Int.eq_ofNat_of_zero_le h0
  by_cases hk : k < 23
  · have hc : ∀ j v, (hasCells (hasL.getD k noHas))[j]? = some v → ∀ W, Ext w W → W.cell? ⟨0, k * 6 + j, none⟩ = some v := fun j v hv => stays (hT k hk j v hv)
    have t0 : ∀ W, Ext w W → W.cell? ⟨0, k * 6, none⟩ = some (.bool (hasL.getD k noHas).a) := hc 0 _ rfl
    have t1 := hc 1 _ rfl
    have t2 := hc 2 _ rfl
    have t3 := hc 3 _ rfl
    have t4 := hc 4 _ rfl
    have t5 := hc 5 _ rfl
    have HF : Hid (hasOf k = hasL.getD k noHas) := by unfold Hid hasOf; simp
    clear hc hT
    generalize hasL.getD k noHas = h at *
    go_enter Tryd.func79, Tryd.ntmps79
    go_wp2
    exact bodyPost_ret (v := .agg (hasCells h).toArray) (by simp [results, Tryd.results79, go_sem, hasCells]) rfl ⟨by rw [HF.out], (by repeat (first | assumption | exact Ext.refl _ | exact Ext.of_xt _ _ | apply Ext.alloc | apply Ext.drewN | apply Ext.drew))⟩
  · have HF : Hid (hasOf k = noHas) := by unfold Hid hasOf; rw [List.getD_eq_getElem?_getD, List.getElem?_eq_none (by simp [hasL]; omega)]; rfl
    clear hT
    go_enter Tryd.func79, Tryd.ntmps79
    go_wp2
    exact bodyPost_ret (v := .agg (hasCells noHas).toArray) (by simp [results, Tryd.results79, go_sem, hasCells, noHas]) rfl ⟨by rw [HF.out], (by repeat (first | assumption | exact Ext.refl _ | exact Ext.of_xt _ _ | apply Ext.alloc | apply Ext.drewN | apply Ext.drew))⟩

def belB (n m : Int) : Bool := decide (0 ≤ n) && decide (n < m)
set_option maxHeartbeats 400000 in
theorem belB_c (n m : Int) (w : World) : Calls Tryd.prog 80 #[.int .i64 n, .int .i64 m] w fun e w' => e = .returned (.bool (belB n m)) ∧ w = w' := by
  go_enter Tryd.func80, Tryd.ntmps80
  go_wp2
  all_goals (go_ret; refine ⟨ret_bool ?_, rfl⟩; first | (simp_all [belB]; done) | (simp_all [belB]; omega))

set_option maxHeartbeats 400000 in
theorem all1_c (m x : Int) (B : Nat) (w : World) (hc : ∀ W, Ext w W → W.cell? ⟨B, 0, none⟩ = some (.int .i64 m)) :
    Calls Tryd.prog 175 #[.int .i64 x, .pointer (some ⟨B, 0, none⟩)] w fun e w' => e = .returned (.bool (outOf m x)) ∧ Ext w w' := by
  have HF : Hid ((!belB x m) = outOf m x) := by unfold Hid belB outOf; rw [Bool.eq_iff_iff]; first | (simp; done) | (simp; omega)
  go_enter Tryd.func175, Tryd.ntmps175
  go_wp2_with fail
  refine (belB_c x m _).mono ?_
  rintro _ _ ⟨rfl, rfl⟩
  go_wp2
  go_ret
  exact ⟨ret_bool HF.out, Ext.refl _⟩

set_option maxHeartbeats 400000 in
theorem all_c (m : Int) (l : List Int) (A : Option Addr) (c : Nat) (w : World) (hA : Kd.C (Kd.int .i64) w A l.length l) :
    Calls Tryd.prog 164 #[.slice A l.length c, .int .i64 m] w fun e w' => e = .returned (.bool (bel l m)) ∧ Ext w w' := by
  have HA := Aside0.mk hA
  clear hA
  have hmf : ∀ (fn : Go.Fn) (first cap : Array Value) (w : World), (Instr.makeFunc fn first cap).run Tryd.prog w = .ok (.func fn first cap) w := fun _ _ _ _ => rfl
  go_enter Tryd.func164, Tryd.ntmps164
  go_wp2_with fail
  refine (hasI_c 175 _ (enters_of Tryd.func175 (by kernel_rfl) rfl) (outOf m) A c l _ (Ext.C (by repeat (first | assumption | exact Ext.refl _ | exact Ext.of_xt _ _ | apply Ext.alloc | apply Ext.drewN | apply Ext.drew)) HA.out) ?_).mono ?_
  · intro W x cs _ hW hK
    obtain rfl : cs = [.int .i64 x] := hK
    exact all1_c m x _ W (fun W' hW' => (hW.trans hW').cell (by simp))
  · rintro e w1 ⟨rfl, h1⟩
    go_wp2
    go_ret
    exact ⟨ret_bool (bel_any l m), Ext.trans (by repeat (first | assumption | exact Ext.refl _ | exact Ext.of_xt _ _ | apply Ext.alloc | apply Ext.drewN | apply Ext.drew)) h1⟩

/-- An instruction, an end, as values. -/
def vIns (x : Ins) (A5 : Option Addr) (c5 : Nat) (A6 : Option Addr) (c6 : Nat) : Value := .agg #[.int .u8 x.op, .int .i64 x.typ, .int .i64 x.a, .int .i64 x.b, .int .i64 x.n, .slice A5 x.args.length c5, .slice A6 x.froms.length c6]
def vEn (x : En) : Value := .agg #[.int .u8 x.kind, .int .i64 x.a, .int .i64 x.to, .int .i64 x.els]
def vSz (t f r b : Int) : Value := .agg #[.int .i64 t, .int .i64 f, .int .i64 r, .int .i64 b]

def numB (x : Ins) (f : Int) : Bool := if x.op = 3 ∨ x.op = 18 then decide (0 ≤ x.n) && decide (x.n < f) else if x.op = 14 then decide (0 ≤ x.n) && decide (x.n < 8) else true
set_option maxHeartbeats 400000 in
theorem numB_c (x : Ins) (A5 : Option Addr) (c5 : Nat) (A6 : Option Addr) (c6 : Nat) (t f r b : Int) (w : World) :
    Calls Tryd.prog 165 #[vIns x A5 c5 A6 c6, vSz t f r b] w fun e w' => e = .returned (.bool (numB x f)) ∧ Ext w w' := by
  unfold vIns vSz
  go_enter Tryd.func165, Tryd.ntmps165
  go_wp2
  all_goals (go_ret; refine ⟨ret_bool ?_, (by repeat (first | assumption | exact Ext.refl _ | exact Ext.of_xt _ _ | apply Ext.alloc | apply Ext.drewN | apply Ext.drew))⟩; first | (simp_all [numB, beqI]; done) | (simp_all [numB, beqI]; omega))

def endB (x : En) (r b : Int) : Bool :=
  if x.kind = 1 then decide (x.a = 0) && decide (x.els = 0) && belB x.to b
  else if x.kind = 2 then belB x.a r && belB x.to b && belB x.els b
  else if x.kind = 3 then decide (x.to = 0) && decide (x.els = 0) && belB x.a r
  else false
set_option maxHeartbeats 400000 in
theorem endB_c (x : En) (t f r b : Int) (w : World) :
    Calls Tryd.prog 146 #[vEn x, vSz t f r b] w fun e w' => e = .returned (.bool (endB x r b)) ∧ Ext w w' := by
  unfold vEn vSz
  go_enter Tryd.func146, Tryd.ntmps146
  go_wp2_with (go_at_call 80; refine (belB_c _ _ _).mono ?_; rintro _ _ ⟨rfl, rfl⟩)
  all_goals (go_ret; refine ⟨ret_bool ?_, (by repeat (first | assumption | exact Ext.refl _ | exact Ext.of_xt _ _ | apply Ext.alloc | apply Ext.drewN | apply Ext.drew))⟩; first | (simp_all [endB, beqI]; done) | (simp_all [endB, beqI]; omega))

/-- what an instruction has besides what it should -/
def noneB (x : Ins) (h : Has) : Bool := (!h.a && !decide (x.a = 0)) || (!h.b && !decide (x.b = 0)) || (!h.n && !decide (x.n = 0)) || (!h.args && decide (0 < x.args.length)) || (!h.froms && decide (0 < x.froms.length))
def kindB (x : Ins) (h : Has) (t : Int) : Bool := (h.ans && belB x.typ t) || (!h.ans && decide (x.typ = 0))
def insH (x : Ins) (h : Has) (t f r b : Int) : Bool :=
  (!h.a || belB x.a r) && (!h.b || belB x.b r) && bel x.args r && numB x f && !noneB x h && kindB x h t &&
    (if h.froms then bel x.froms b && decide (x.froms.length = x.args.length) && decide (1 ≤ x.froms.length) && decide (x.froms.length ≤ 16) else decide (x.args.length ≤ 4))
def insB (x : Ins) (t f r b : Int) : Bool := if x.op < 1 ∨ 22 < x.op then false else insH x (hasOf x.op) t f r b
end Go.Proofs.YtjbnabjjbofhjaaDoor.Fes
