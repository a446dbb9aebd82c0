/- The statements of layer 9: their own functions. -/
import Derived.Test.YtjbnabjjbofhjaaDoorFl6
import Derived.Test.YtjbnabjjbofhjaaDoorLits
import Derived.Test.YtjbnabjjbofhjaaDoorG06
import Derived.Test.YtjbnabjjbofhjaaDoorEqRow
set_option linter.unusedVariables false
set_option linter.unusedSimpArgs false
namespace Go.Proofs.YtjbnabjjbofhjaaDoor.Fes
open Go.RowKit Go.Proofs.YtjbnabjjbofhjaaDoorW.PrintWords

def chIns : Ins := ⟨1, 0, 0, 0, 0, [], []⟩
def chBs : List Blk := [⟨[chIns], ⟨2, 0, 1, 2⟩⟩, ⟨[], ⟨1, 0, 0, 0⟩⟩, ⟨[], ⟨3, 0, 0, 0⟩⟩]
def chTs : List Typ := [⟨1, 0, 0, []⟩, ⟨3, 0, 0, []⟩]
def chP9 : Prg := ⟨chTs, [⟨1, chBs⟩]⟩
set_option maxHeartbeats 2000000 in
theorem chapter9_c (w : World) :
    Calls Tryd.prog 29 #[] w fun e w' => ∃ A0 A1 c0 c1, e = .returned (vPrg chP9 A0 c0 A1 c1) ∧ AtP w' chP9 A0 A1 ∧ Ext w w' := by
  go_enter Tryd.func29, Tryd.ntmps29
  go_wp2
  refine bodyPost_ret (v := vPrg chP9 (some ⟨w.heap.size + 1 + 1 + 1, 0, none⟩) 2 (some ⟨w.heap.size + 1 + 1 + 1 + 1, 0, none⟩) 1) (by simp [results, Tryd.results29, go_sem, vPrg, chP9, chTs]) rfl ⟨_, _, _, _, rfl, ⟨?_, ?_⟩, (by repeat (first | assumption | exact Ext.refl _ | exact Ext.of_xt _ _ | apply Ext.alloc | apply Ext.drewN | apply Ext.drew))⟩
  · refine C_chunks (heap5 w _ _ _ _ _).2.2.2.1 (.cons (kTyp_mk _ ⟨1, 0, 0, []⟩ (A3 := none) (c3 := 0) (Nat.le_refl _) (C_nil _ _)) (.cons (kTyp_mk _ ⟨3, 0, 0, []⟩ (A3 := none) (c3 := 0) (Nat.le_refl _) (C_nil _ _)) .nil)) (by simp [chP9, chTs])
  · refine C_chunks (heap5 w _ _ _ _ _).2.2.2.2 (.cons (kFc_mk _ ⟨1, chBs⟩ (A1 := some ⟨w.heap.size + 1 + 1, 0, none⟩) (c1 := 3) (by simp [chBs]) ?_) .nil) (by simp [chP9])
    exact C_chunks (heap5 w _ _ _ _ _).2.2.1 (.cons (kBlk_mk _ ⟨[chIns], ⟨2, 0, 1, 2⟩⟩ (A0 := some ⟨w.heap.size + 1, 0, none⟩) (c0 := 1) (Nat.le_refl _)
      (C_chunks (heap5 w _ _ _ _ _).2.1 (.cons (kIns_mk _ chIns (A5 := none) (c5 := 0) (Nat.le_refl _) (C_nil _ _) (A6 := none) (c6 := 0) (Nat.le_refl _) (C_nil _ _)) .nil) (by simp)))
      (.cons (kBlk_mk _ ⟨[], ⟨1, 0, 0, 0⟩⟩ (A0 := none) (c0 := 0) (Nat.le_refl _) (C_nil _ _)) (.cons (kBlk_mk _ ⟨[], ⟨3, 0, 0, 0⟩⟩ (A0 := none) (c0 := 0) (Nat.le_refl _) (C_nil _ _)) .nil))) (by simp [chBs])

set_option maxHeartbeats 1000000 in
theorem among9_c (xs : List Int) (y : Int) (A : Option Addr) (c : Nat) (w : World) (hA : Kd.C (Kd.int .i64) w A xs.length xs) :
    Calls Tryd.prog 32 #[.slice A xs.length c, .int .i64 y] w fun e w' => e = .returned (.bool (xs.contains y)) ∧ w = w' := by
  have HA := Aside0.mk hA
  have hlen : xs.length ≤ 9223372036854775807 := hA.2.1
  clear hA
  go_enter Tryd.func32, Tryd.ntmps32
  go_wp2
  go_loop [5] (fun i => ∃ k : Nat, k ≤ xs.length ∧ i = .int .i64 k ∧ Aside0 (∀ j (hj : j < xs.length), j < k → xs[j] ≠ y)) (fun i => xs.length - (intOf i).toNat)
  case atStart => exact ⟨0, by omega, rfl, ⟨fun j hj h => absurd h (by omega)⟩⟩
  case round =>
    obtain ⟨k, hk, rfl, hpre⟩ := hrel
    by_cases hlt : k < xs.length
    · obtain ⟨ad, rfl, a0⟩ := at_int HA.out k hlt
      have a0 := a0 w (Ext.refl w)
      by_cases he : xs[k] = y
      · have HC := Aside0.mk (contains_at xs y k hlt he)
        have hb : (xs[k] == y) = true := by simp [he]
        generalize xs[k] = x at *
        clear he hpre
        go_wp2
        go_ret
        exact ⟨ret_bool (by rw [← HC.out, List.contains_eq_mem]), rfl⟩
      · have hb : (xs[k] == y) = false := by simpa using he
        have HN := Aside0.mk (show ∀ j (hj : j < xs.length), j < k + 1 → xs[j] ≠ y by
          intro j hj hjk
          rcases Nat.lt_or_ge j k with h | h
          · exact hpre.out j hj h
          · obtain rfl : j = k := by omega
            exact he)
        generalize xs[k] = x at *
        clear he hpre
        go_wp2
        go_round
        case rel => exact ⟨k + 1, by omega, by go_num, HN⟩
        case measure => simp [intOf]; omega
    · have HC := Aside0.mk (contains_none xs y k (by omega) hpre.out)
      clear hpre
      go_wp2
      go_ret
      exact ⟨ret_bool (by rw [← HC.out, List.contains_eq_mem]), rfl⟩

theorem ch_sm : SmP chP9 := ⟨by decide, by decide, by decide, by decide, by decide, by decide⟩
theorem ch_wf : WfP chP9 := by unfold WfP; decide
theorem ch_e00 : flE chP9 0 0 = 0 := by decide +kernel
theorem ch_e01 : flE chP9 0 1 = 0 := by decide +kernel
theorem ch_n : nxP chP9 0 0 = [1, 2] := by decide +kernel
theorem ch_p : prP chP9 0 0 = [1] := by decide +kernel
theorem ch_o : orP chP9 0 = [0, 2, 1] := by decide +kernel
theorem ch_r : rdP chP9 0 1 = true := by decide +kernel

set_option maxHeartbeats 2000000 in
theorem alive9_c (w : World) (hT : Tab w) : Calls Tryd.prog 27 #[] w fun e w' => e = .returned (.bool true) ∧ Ext w w' := by
  have HT := Aside0.mk hT
  clear hT
  go_enter Tryd.func27, Tryd.ntmps27
  go_wp2_with fail
  refine (chapter9_c _).mono ?_
  rintro _ w1 ⟨P0, P1, p0, p1, rfl, hp1, hx1⟩
  have HP1 := Aside0.mk hp1
  clear hp1
  go_wp2_with fail
  refine (flNext_c _ chP9 0 0 P0 P1 p0 p1 (HT.out.ext hx1) ch_sm ch_wf HP1.out).mono ?_
  rintro _ w2 ⟨v2, rfl, hv2, hx2⟩
  have e_w_w2 := hx1.trans hx2
  rw [ch_n] at hv2
  rw [ch_e00]
  have HV2 := Aside0.mk hv2
  clear hv2 hx1 hx2
  go_wp2_with fail
  refine (chapter9_c _).mono ?_
  rintro _ w3 ⟨Q0, Q1, q0, q1, rfl, hp3, hx3⟩
  have HP3 := Aside0.mk hp3
  have e_w_w3 := e_w_w2.trans hx3
  clear hp3
  go_wp2_with fail
  refine (flPreds_c chP9 0 0 Q0 Q1 q0 q1 _ (HT.out.ext e_w_w3) ch_sm ch_wf HP3.out).mono ?_
  rintro _ w4 ⟨v4, rfl, hv4, hx4⟩
  have e_w_w4 := e_w_w3.trans hx4
  have e_w2_w4 := hx3.trans hx4
  rw [ch_p] at hv4
  rw [ch_e00]
  have HV4 := Aside0.mk hv4
  clear hv4 hx3 hx4
  go_wp2_with fail
  refine (chapter9_c _).mono ?_
  rintro _ w5 ⟨R0, R1, r0, r1, rfl, hp5, hx5⟩
  have HP5 := Aside0.mk hp5
  have e_w_w5 := e_w_w4.trans hx5
  clear hp5
  go_wp2_with fail
  refine (flOrder_c chP9 0 R0 R1 r0 r1 _ (HT.out.ext e_w_w5) ch_sm ch_wf HP5.out).mono ?_
  rintro _ w6 ⟨v6, rfl, hv6, hx6⟩
  have e_w_w6 := e_w_w5.trans hx6
  have e_w4_w6 := hx5.trans hx6
  rw [ch_o] at hv6
  rw [ch_e00]
  have HV6 := Aside0.mk hv6
  clear hv6 hx5 hx6
  go_wp2_with fail
  refine (chapter9_c _).mono ?_
  rintro _ w7 ⟨S0, S1, s0, s1, rfl, hp7, hx7⟩
  have HP7 := Aside0.mk hp7
  have e_w_w7 := e_w_w6.trans hx7
  clear hp7
  go_wp2_with fail
  refine (flRound_c chP9 0 1 S0 S1 s0 s1 _ (HT.out.ext e_w_w7) ch_sm ch_wf HP7.out).mono ?_
  rintro _ w8 ⟨rfl, hx8⟩
  have e_w_w8 := e_w_w7.trans hx8
  have e_w6_w8 := hx7.trans hx8
  rw [ch_e01, ch_r]
  clear hx7 hx8
  obtain ⟨B2, d2, he2, _, hC2⟩ := (HV2.out.ext (e_w2_w4.trans (e_w4_w6.trans e_w6_w8))).reads
  obtain ⟨B4, d4, he4, _, hC4⟩ := (HV4.out.ext (e_w4_w6.trans e_w6_w8)).reads
  obtain ⟨B6, d6, he6, _, hC6⟩ := (HV6.out.ext e_w6_w8).reads
  have HC2 := Aside0.mk hC2
  have HC4 := Aside0.mk hC4
  have HC6 := Aside0.mk hC6
  subst he2 he4 he6
  clear hC2 hC4 hC6
  go_wp2_with fail
  refine (smI_c [1, 2] [1, 2] B2 (some ⟨w8.heap.size, 0, none⟩) d2 2 _ (Ext.C (by repeat (first | assumption | exact Ext.refl _ | exact Ext.of_xt _ _ | apply Ext.alloc | apply Ext.drewN | apply Ext.drew)) HC2.out) (C_litI [1, 2] rfl (by simp) _)).mono ?_
  (rintro _ w9 ⟨rfl, hx_⟩; have e_w_w9 : Ext w w9 := Ext.trans (by repeat (first | assumption | exact Ext.refl _ | exact Ext.of_xt _ _ | apply Ext.alloc | apply Ext.drewN | apply Ext.drew)) hx_; have e_w8_w9 : Ext w8 w9 := Ext.trans (by repeat (first | assumption | exact Ext.refl _ | exact Ext.of_xt _ _ | apply Ext.alloc | apply Ext.drewN | apply Ext.drew)) hx_; clear hx_)
  go_wp2_with fail
  refine (smI_c [1] [1] B4 (some ⟨w9.heap.size, 0, none⟩) d4 1 _ (Ext.C (by repeat (first | assumption | exact Ext.refl _ | exact Ext.of_xt _ _ | apply Ext.alloc | apply Ext.drewN | apply Ext.drew)) HC4.out) (C_litI [1] rfl (by simp) _)).mono ?_
  (rintro _ w10 ⟨rfl, hx_⟩; have e_w_w10 : Ext w w10 := Ext.trans (by repeat (first | assumption | exact Ext.refl _ | exact Ext.of_xt _ _ | apply Ext.alloc | apply Ext.drewN | apply Ext.drew)) hx_; have e_w8_w10 : Ext w8 w10 := Ext.trans (by repeat (first | assumption | exact Ext.refl _ | exact Ext.of_xt _ _ | apply Ext.alloc | apply Ext.drewN | apply Ext.drew)) hx_; have e_w9_w10 : Ext w9 w10 := Ext.trans (by repeat (first | assumption | exact Ext.refl _ | exact Ext.of_xt _ _ | apply Ext.alloc | apply Ext.drewN | apply Ext.drew)) hx_; clear hx_)
  go_wp2_with fail
  refine (smI_c [0, 2, 1] [0, 2, 1] B6 (some ⟨w10.heap.size, 0, none⟩) d6 3 _ (Ext.C (by repeat (first | assumption | exact Ext.refl _ | exact Ext.of_xt _ _ | apply Ext.alloc | apply Ext.drewN | apply Ext.drew)) HC6.out) (C_litI [0, 2, 1] rfl (by simp) _)).mono ?_
  (rintro _ w11 ⟨rfl, hx_⟩; have e_w_w11 : Ext w w11 := Ext.trans (by repeat (first | assumption | exact Ext.refl _ | exact Ext.of_xt _ _ | apply Ext.alloc | apply Ext.drewN | apply Ext.drew)) hx_; have e_w8_w11 : Ext w8 w11 := Ext.trans (by repeat (first | assumption | exact Ext.refl _ | exact Ext.of_xt _ _ | apply Ext.alloc | apply Ext.drewN | apply Ext.drew)) hx_; have e_w9_w11 : Ext w9 w11 := Ext.trans (by repeat (first | assumption | exact Ext.refl _ | exact Ext.of_xt _ _ | apply Ext.alloc | apply Ext.drewN | apply Ext.drew)) hx_; have e_w10_w11 : Ext w10 w11 := Ext.trans (by repeat (first | assumption | exact Ext.refl _ | exact Ext.of_xt _ _ | apply Ext.alloc | apply Ext.drewN | apply Ext.drew)) hx_; clear hx_)
  go_wp2
  go_ret
  exact ⟨rfl, e_w_w11⟩
end Go.Proofs.YtjbnabjjbofhjaaDoor.Fes
