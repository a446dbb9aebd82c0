/- Rows of whole numbers that a call makes for itself: append, literals. -/
import Derived.Test.YtjbnabjjbofhjaaDoorOwnS
set_option linter.unusedVariables false
set_option linter.unusedSimpArgs false
namespace Go.Proofs.YtjbnabjjbofhjaaDoor.Fes
open Go.RowKit Go.Proofs.YtjbnabjjbofhjaaDoorW.PrintWords

theorem infoInt : (Tryd.prog.info? 3).map (fun i => (i.zero, i.size, i.bytes)) = some (some (.int .i64 0), 1, 8) := by kernel_rfl

/-- A row of ints of the call's own (the call began in w). -/
def OwnI (w W : World) (v : Value) (xs : List Int) : Prop := (Kd.int .i64).R 3 W w.heap.size (fun _ => True) v xs

theorem OwnI.nil (w W : World) : OwnI w W (.slice none 0 0) [] := Kd.R_nil _ _ _ _ _
theorem OwnI.ext {w W W1 : World} {v : Value} {xs : List Int} (h : OwnI w W v xs) (he : Ext W W1) : OwnI w W1 v xs := Kd.R_below h he.b
theorem OwnI.reads {w W : World} {v : Value} {xs : List Int} (h : OwnI w W v xs) : ∃ A c, v = .slice A xs.length c ∧ xs.length ≤ c ∧ Kd.C (Kd.int .i64) W A xs.length xs := Kd.R_reads h
theorem OwnI.lit {w W : World} (h : Ext w W) (xs : List Int) (hm : xs.length ≤ 9223372036854775807) : OwnI w (W.alloc (.cells (nums .i64 xs).toArray 3)) (.slice (some ⟨W.heap.size, 0, none⟩) xs.length xs.length) xs := by
  refine Kd.R_of_own ?_ (fun _ _ => trivial)
  have := own_lit W w.heap.size 3 .i64 xs h.size hm
  simpa [encs, nums] using this

theorem C_litI {W : World} {n : Nat} (xs : List Int) (hn : n = W.heap.size) (hm : xs.length ≤ 9223372036854775807) (e : TypeId) : Kd.C (Kd.int .i64) (W.alloc (.cells (nums .i64 xs).toArray e)) (some ⟨n, 0, none⟩) xs.length xs := by
  subst hn
  refine ⟨rfl, hm, fun _ => ⟨_, rfl, fun j p hj => ⟨[.int .i64 p], rfl, rfl, fun i u hu => ?_⟩⟩⟩
  cases i with
  | zero =>
    obtain rfl : Value.int .i64 p = u := by simpa using hu
    have hjl := (List.getElem?_eq_some_iff.1 hj).1
    have hs : (Kd.int .i64).sz = 1 := rfl
    rw [hs, add_plain]
    simp only [Nat.mul_one, Nat.add_zero, World.cell?_alloc_new]
    simp [nums, hj]
  | succ i => simp at hu
theorem OwnI.litn {w W : World} {n : Nat} (hn : n = W.heap.size) (h : Ext w W) (xs : List Int) (hm : xs.length ≤ 9223372036854775807) : OwnI w (W.alloc (.cells (nums .i64 xs).toArray 3)) (.slice (some ⟨n, 0, none⟩) xs.length xs.length) xs := by
  subst hn; exact OwnI.lit h xs hm
section
variable {ops : Array Oper} {rest : List Oper} {o : Oper} {a : Act} {Q : Exit → Act → World → Prop} {w W : World}
theorem app_int {s x : Operand} {v : Value} {xs : List Int} {y : Int} (ho : o.op = .call { callee := .builtin .append, args := #[s, x], argTypes := #[28, 28] }) (hgd : o.guard = none)
    (hs : a.eval s = v) (hx : a.eval x = .slice (some ⟨W.heap.size, 0, none⟩) 1 1) (HO : OwnI w W v xs) (hW : Ext w W) (hl : xs.length ≤ 1000000000)
    (h : ∀ v1 w1, OwnI w w1 v1 (xs ++ [y]) → Ext w w1 → W.grownBy w1 v.ownBlock → (v1.ownBlock = v.ownBlock ∨ ∃ b, v1.ownBlock = some b ∧ W.heap.size ≤ b) → wpList Tryd.prog ops Q rest (a.put o.dst v1) w1) :
    wpList Tryd.prog ops Q (o :: rest) a (W.alloc (.cells #[.int .i64 y] 3)) :=
  Kd.R_append (Kd.int .i64) (w0 := w) w.heap.size hgd s x 28 3 (.int .i64 0) 8 ho Tryd.underlying28 infoInt rfl (by decide) (by omega) v xs y [.int .i64 y] (fun _ => True) (fun _ => False) hs hx rfl (fun _ hk => hk.elim) (fun _ _ => trivial)
    HO hW.b hW.size (by omega) (fun v1 w1 h1 h2 h3 h4 => h v1 w1 h1 ⟨h2⟩ h3 h4)

theorem app_ints {s x : Operand} {v : Value} {xs ys : List Int} {A : Option Addr} {c : Nat} (ho : o.op = .call { callee := .builtin .append, args := #[s, x], argTypes := #[28, 28] }) (hgd : o.guard = none)
    (hs : a.eval s = v) (hx : a.eval x = .slice A ys.length c) (HO : OwnI w W v xs) (HR : Kd.C (Kd.int .i64) W A ys.length ys) (hW : Ext w W) (hl : xs.length + ys.length ≤ 1000000000)
    (h : ∀ v1 w1, OwnI w w1 v1 (xs ++ ys) → Ext w w1 → W.grownBy w1 v.ownBlock → (v1.ownBlock = v.ownBlock ∨ ∃ b, v1.ownBlock = some b ∧ W.heap.size ≤ b) → wpList Tryd.prog ops Q rest (a.put o.dst v1) w1) :
    wpList Tryd.prog ops Q (o :: rest) a W :=
  Kd.R_append_rows (Kd.int .i64) (Rr := (Kd.int .i64).K W) (w0 := w) w.heap.size hgd s x 28 3 (.int .i64 0) 8 ho Tryd.underlying28 infoInt rfl (by decide) (by omega) v xs ys A ys.length c (fun _ => True) (fun _ => False) hs hx
    HO HR (fun _ _ hk => hk) (fun _ hk => hk.elim) (fun _ _ => trivial) hW.b hW.size (by omega) (fun v1 w1 h1 h2 h3 h4 => h v1 w1 h1 ⟨h2⟩ h3 h4)
end
theorem OwnS.int {w W : World} {v : Value} {xs : List Int} (h : OwnI w W v xs) : OwnS (Kd.int .i64) 3 w W v xs := h
end Go.Proofs.YtjbnabjjbofhjaaDoor.Fes
