/- Functions that tell whether two rows have the same elements. -/
import Derived.Test.YtjbnabjjbofhjaaDoorEqs
set_option linter.unusedVariables false
set_option linter.unusedSimpArgs false
namespace Go.Proofs.YtjbnabjjbofhjaaDoor.Fes
open Go.RowKit Go.Proofs.YtjbnabjjbofhjaaDoorW.PrintWords

theorem take_eq_succ {α : Type} {xs ys : List α} {k : Nat} (h : xs.take k = ys.take k) (h1 : k < xs.length) (h2 : k < ys.length) (he : xs[k] = ys[k]) : xs.take (k + 1) = ys.take (k + 1) := by
  rw [← List.take_append_getElem h1, ← List.take_append_getElem h2, h, he]
theorem eq_of_take {α : Type} {xs ys : List α} {k : Nat} (h : xs.take k = ys.take k) (h1 : xs.length ≤ k) (h2 : ys.length ≤ k) : xs = ys := by
  rwa [List.take_of_length_le h1, List.take_of_length_le h2] at h
theorem ne_of_len {α : Type} {xs ys : List α} (h : xs.length ≠ ys.length) : xs ≠ ys := fun e => h (by rw [e])
theorem ne_of_at {α : Type} {xs ys : List α} {k : Nat} (h1 : k < xs.length) (h2 : k < ys.length) (h : xs[k] ≠ ys[k]) : xs ≠ ys := fun e => h (by subst e; rfl)














set_option maxHeartbeats 400000 in
theorem smI_c (xs ys : List Int) (A B : Option Addr) (c d : Nat) (w : World) (hA : Kd.C (Kd.int .i64) w A xs.length xs) (hB : Kd.C (Kd.int .i64) w B ys.length ys) :
    Calls Tryd.prog 25 #[.slice A xs.length c, .slice B ys.length d] w fun e w' => e = .returned (.bool (decide (xs = ys))) ∧ Ext w w' := by
  have HA := Aside0.mk hA
  have HB := Aside0.mk hB
  have hlen : xs.length ≤ 9223372036854775807 := hA.2.1
  have hlen2 : ys.length ≤ 9223372036854775807 := hB.2.1
  clear hA hB
  go_enter Tryd.func25, Tryd.ntmps25
  by_cases hl : xs.length = ys.length
  case neg =>
    go_wp2
    go_ret
    exact ⟨ret_bool (by simp [ne_of_len hl]), (by repeat (first | assumption | exact Ext.refl _ | exact Ext.of_xt _ _ | apply Ext.alloc | apply Ext.drewN | apply Ext.drew))⟩
  case pos =>
    go_wp2
    go_loopw [5] (fun i wr => ∃ k : Nat, k ≤ xs.length ∧ Hid (xs.take k = ys.take k) ∧ i = .int .i64 k ∧ Ext w wr) (fun i _ => xs.length - (intOf i).toNat)
    case atStart => exact ⟨0, by omega, rfl, rfl, (by repeat (first | assumption | exact Ext.refl _ | exact Ext.of_xt _ _ | apply Ext.alloc | apply Ext.drewN | apply Ext.drew))⟩
    case round =>
      obtain ⟨k, hk, hpre, rfl, hb⟩ := hrel
      by_cases hlt : k < xs.length
      · have hlt2 : k < ys.length := by omega
        obtain ⟨ad, rfl, a0⟩ := at_int (hb.C HA.out) k hlt
        obtain ⟨bd, rfl, b0⟩ := at_int (hb.C HB.out) k hlt2
        have hbq := beqI xs[k] ys[k]
        have hne := fun h => ne_of_at (xs := xs) (ys := ys) hlt hlt2 h
        have hs := fun h => take_eq_succ hpre.out hlt hlt2 h
        replace hne := Aside0.mk hne
        replace hs := Aside0.mk hs
        generalize xs[k] = x at *
        generalize ys[k] = y at *
        by_cases hxy : x = y
        · rw [decide_eq_true hxy] at hbq
          go_wp2
          go_quiet (fail)
          go_wp2
          go_roundw
          case rel => exact ⟨k + 1, by omega, hs.out hxy, by go_num, (by repeat (first | assumption | exact Ext.refl _ | exact Ext.of_xt _ _ | apply Ext.alloc | apply Ext.drewN | apply Ext.drew))⟩
          case measure => simp [intOf]; omega
        · rw [decide_eq_false hxy] at hbq
          go_wp2
          go_quiet (fail)
          go_wp2
          go_ret
          exact ⟨ret_bool (by simp [hne.out hxy]), (by repeat (first | assumption | exact Ext.refl _ | exact Ext.of_xt _ _ | apply Ext.alloc | apply Ext.drewN | apply Ext.drew))⟩
      · go_wp2
        go_ret
        exact ⟨ret_bool (by simp [eq_of_take hpre.out (by omega) (by omega)]), (by repeat (first | assumption | exact Ext.refl _ | exact Ext.of_xt _ _ | apply Ext.alloc | apply Ext.drewN | apply Ext.drew))⟩

end Go.Proofs.YtjbnabjjbofhjaaDoor.Fes
