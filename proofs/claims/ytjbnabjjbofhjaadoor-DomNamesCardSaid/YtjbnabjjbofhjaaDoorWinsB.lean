/- shape.ins, by what an operation has (B). -/
import Derived.Test.YtjbnabjjbofhjaaDoorW06
set_option linter.unusedVariables false
set_option linter.unusedSimpArgs false
namespace Go.Proofs.YtjbnabjjbofhjaaDoor.Fes
open Go.RowKit Go.Proofs.YtjbnabjjbofhjaaDoorW.PrintWords
attribute [local go_sem high] eqA_End eqA_has

set_option maxRecDepth 100000 in
set_option maxHeartbeats 4000000 in
theorem ins_p6 (x : Ins) (A5 : Option Addr) (c5 : Nat) (A6 : Option Addr) (c6 : Nat) (t f r b : Int) (w : World) (hh : hasOf x.op = ⟨true, false, false, false, false, true⟩) (h0 : 0 ≤ x.op) (h1 : x.op ≤ 255) (hT : Tab w)
    (hA : Kd.C (Kd.int .i64) w A5 x.args.length x.args) (hF : Kd.C (Kd.int .i64) w A6 x.froms.length x.froms) :
    Calls Tryd.prog 142 #[vIns x A5 c5 A6 c6, vSz t f r b] w fun e w' => e = .returned (.bool (insH x ⟨true, false, false, false, false, true⟩ t f r b)) ∧ Ext w w' := by
  have HA := Aside0.mk hA
  have HF := Aside0.mk hF
  have HT := Aside0.mk hT
  have HH := Aside0.mk hh
  clear hA hF hT hh
  unfold vIns vSz
  go_enter Tryd.func142, Tryd.ntmps142
  go_wp2_with fail
  refine (hasOf_c x.op h0 h1 _ (HT.out.ext (by repeat (first | assumption | exact Ext.refl _ | exact Ext.of_xt _ _ | apply Ext.alloc | apply Ext.drewN | apply Ext.drew)))).mono ?_
  (rintro _ w1 ⟨rfl, hx_⟩; have e_w_w1 : Ext w w1 := Ext.trans (by repeat (first | assumption | exact Ext.refl _ | exact Ext.of_xt _ _ | apply Ext.alloc | apply Ext.drewN | apply Ext.drew)) hx_; have b_w1_0_0 := stays (hx_.cell (a := ⟨w.heap.size, 0, none⟩) (by first | (go_simp; rfl) | rfl)); have b_w1_0_1 := stays (hx_.cell (a := ⟨w.heap.size, 1, none⟩) (by first | (go_simp; rfl) | rfl)); have b_w1_0_2 := stays (hx_.cell (a := ⟨w.heap.size, 2, none⟩) (by first | (go_simp; rfl) | rfl)); have b_w1_0_3 := stays (hx_.cell (a := ⟨w.heap.size, 3, none⟩) (by first | (go_simp; rfl) | rfl)); have b_w1_0_4 := stays (hx_.cell (a := ⟨w.heap.size, 4, none⟩) (by first | (go_simp; rfl) | rfl)); have b_w1_0_5 := stays (hx_.cell (a := ⟨w.heap.size, 5, none⟩) (by first | (go_simp; rfl) | rfl)); have b_w1_0_6 := stays (hx_.cell (a := ⟨w.heap.size, 6, none⟩) (by first | (go_simp; rfl) | rfl)); have b_w1_1_0 := stays (hx_.cell (a := ⟨w.heap.size + 1, 0, none⟩) (by first | (go_simp; rfl) | rfl)); have b_w1_1_1 := stays (hx_.cell (a := ⟨w.heap.size + 1, 1, none⟩) (by first | (go_simp; rfl) | rfl)); have b_w1_1_2 := stays (hx_.cell (a := ⟨w.heap.size + 1, 2, none⟩) (by first | (go_simp; rfl) | rfl)); have b_w1_1_3 := stays (hx_.cell (a := ⟨w.heap.size + 1, 3, none⟩) (by first | (go_simp; rfl) | rfl)); clear hx_)
  rw [HH.out]
  unfold hasCells
  dsimp only
  go_wp2_with (go_at_call 80; refine (belB_c _ _ _).mono ?_; rintro _ _ ⟨rfl, rfl⟩)
  all_goals (try (go_ret; refine ⟨ret_bool ?_, (by repeat (first | assumption | exact Ext.refl _ | exact Ext.of_xt _ _ | apply Ext.alloc | apply Ext.drewN | apply Ext.drew))⟩; first | (simp_all [insH, noneB, kindB, beqI]; done) | (simp_all [insH, noneB, kindB, beqI]; first | omega | (intros; omega) | (rw [Bool.eq_iff_iff]; simp; omega))))
  refine (all_c r x.args A5 c5 _ (Ext.C (by repeat (first | assumption | exact Ext.refl _ | exact Ext.of_xt _ _ | apply Ext.alloc | apply Ext.drewN | apply Ext.drew)) HA.out)).mono ?_
  (rintro _ w2 ⟨rfl, hx_⟩; have e_w_w2 : Ext w w2 := Ext.trans (by repeat (first | assumption | exact Ext.refl _ | exact Ext.of_xt _ _ | apply Ext.alloc | apply Ext.drewN | apply Ext.drew)) hx_; have e_w1_w2 : Ext w1 w2 := Ext.trans (by repeat (first | assumption | exact Ext.refl _ | exact Ext.of_xt _ _ | apply Ext.alloc | apply Ext.drewN | apply Ext.drew)) hx_; have b_w2_0_0 := stays (hx_.cell (a := ⟨w1.heap.size, 0, none⟩) (by first | (go_simp; rfl) | rfl)); have b_w2_0_1 := stays (hx_.cell (a := ⟨w1.heap.size, 1, none⟩) (by first | (go_simp; rfl) | rfl)); have b_w2_0_2 := stays (hx_.cell (a := ⟨w1.heap.size, 2, none⟩) (by first | (go_simp; rfl) | rfl)); have b_w2_0_3 := stays (hx_.cell (a := ⟨w1.heap.size, 3, none⟩) (by first | (go_simp; rfl) | rfl)); have b_w2_0_4 := stays (hx_.cell (a := ⟨w1.heap.size, 4, none⟩) (by first | (go_simp; rfl) | rfl)); have b_w2_0_5 := stays (hx_.cell (a := ⟨w1.heap.size, 5, none⟩) (by first | (go_simp; rfl) | rfl)); clear hx_)
  cases hq : bel x.args r with
  | false =>
    go_wp2
    (go_ret; refine ⟨ret_bool ?_, (by repeat (first | assumption | exact Ext.refl _ | exact Ext.of_xt _ _ | apply Ext.alloc | apply Ext.drewN | apply Ext.drew))⟩; first | (simp_all [insH, noneB, kindB, beqI]; done) | (simp_all [insH, noneB, kindB, beqI]; first | omega | (intros; omega) | (rw [Bool.eq_iff_iff]; simp; omega)))
  | true =>
    go_wp2_with fail
    refine (numB_c x A5 c5 A6 c6 t f r b _).mono ?_
    (rintro _ w3 ⟨rfl, hx_⟩; have e_w_w3 : Ext w w3 := Ext.trans (by repeat (first | assumption | exact Ext.refl _ | exact Ext.of_xt _ _ | apply Ext.alloc | apply Ext.drewN | apply Ext.drew)) hx_; have e_w1_w3 : Ext w1 w3 := Ext.trans (by repeat (first | assumption | exact Ext.refl _ | exact Ext.of_xt _ _ | apply Ext.alloc | apply Ext.drewN | apply Ext.drew)) hx_; have e_w2_w3 : Ext w2 w3 := Ext.trans (by repeat (first | assumption | exact Ext.refl _ | exact Ext.of_xt _ _ | apply Ext.alloc | apply Ext.drewN | apply Ext.drew)) hx_; clear hx_)
    cases hn : numB x f with
    | false =>
      go_wp2
      (go_ret; refine ⟨ret_bool ?_, (by repeat (first | assumption | exact Ext.refl _ | exact Ext.of_xt _ _ | apply Ext.alloc | apply Ext.drewN | apply Ext.drew))⟩; first | (simp_all [insH, noneB, kindB, beqI]; done) | (simp_all [insH, noneB, kindB, beqI]; first | omega | (intros; omega) | (rw [Bool.eq_iff_iff]; simp; omega)))
    | true =>
      rcases (show decide (0 < x.args.length) = true ∨ decide (0 < x.args.length) = false by cases decide (0 < x.args.length) <;> simp) with hal | hal
      all_goals (
        rcases (show decide (0 < x.froms.length) = true ∨ decide (0 < x.froms.length) = false by cases decide (0 < x.froms.length) <;> simp) with hfl | hfl
        all_goals (
          go_wp2_with (go_at_call 80; refine (belB_c _ _ _).mono ?_; rintro _ _ ⟨rfl, rfl⟩)
          all_goals (go_ret; refine ⟨ret_bool ?_, (by repeat (first | assumption | exact Ext.refl _ | exact Ext.of_xt _ _ | apply Ext.alloc | apply Ext.drewN | apply Ext.drew))⟩; first | (simp_all [insH, noneB, kindB, beqI]; done) | (simp_all [insH, noneB, kindB, beqI]; first | omega | (intros; omega) | (rw [Bool.eq_iff_iff]; simp; omega)))))

set_option maxRecDepth 100000 in
set_option maxHeartbeats 4000000 in
theorem ins_p7 (x : Ins) (A5 : Option Addr) (c5 : Nat) (A6 : Option Addr) (c6 : Nat) (t f r b : Int) (w : World) (hh : hasOf x.op = ⟨true, true, false, false, false, false⟩) (h0 : 0 ≤ x.op) (h1 : x.op ≤ 255) (hT : Tab w)
    (hA : Kd.C (Kd.int .i64) w A5 x.args.length x.args) (hF : Kd.C (Kd.int .i64) w A6 x.froms.length x.froms) :
    Calls Tryd.prog 142 #[vIns x A5 c5 A6 c6, vSz t f r b] w fun e w' => e = .returned (.bool (insH x ⟨true, true, false, false, false, false⟩ t f r b)) ∧ Ext w w' := by
  have HA := Aside0.mk hA
  have HF := Aside0.mk hF
  have HT := Aside0.mk hT
  have HH := Aside0.mk hh
  clear hA hF hT hh
  unfold vIns vSz
  go_enter Tryd.func142, Tryd.ntmps142
  go_wp2_with fail
  refine (hasOf_c x.op h0 h1 _ (HT.out.ext (by repeat (first | assumption | exact Ext.refl _ | exact Ext.of_xt _ _ | apply Ext.alloc | apply Ext.drewN | apply Ext.drew)))).mono ?_
  (rintro _ w1 ⟨rfl, hx_⟩; have e_w_w1 : Ext w w1 := Ext.trans (by repeat (first | assumption | exact Ext.refl _ | exact Ext.of_xt _ _ | apply Ext.alloc | apply Ext.drewN | apply Ext.drew)) hx_; have b_w1_0_0 := stays (hx_.cell (a := ⟨w.heap.size, 0, none⟩) (by first | (go_simp; rfl) | rfl)); have b_w1_0_1 := stays (hx_.cell (a := ⟨w.heap.size, 1, none⟩) (by first | (go_simp; rfl) | rfl)); have b_w1_0_2 := stays (hx_.cell (a := ⟨w.heap.size, 2, none⟩) (by first | (go_simp; rfl) | rfl)); have b_w1_0_3 := stays (hx_.cell (a := ⟨w.heap.size, 3, none⟩) (by first | (go_simp; rfl) | rfl)); have b_w1_0_4 := stays (hx_.cell (a := ⟨w.heap.size, 4, none⟩) (by first | (go_simp; rfl) | rfl)); have b_w1_0_5 := stays (hx_.cell (a := ⟨w.heap.size, 5, none⟩) (by first | (go_simp; rfl) | rfl)); have b_w1_0_6 := stays (hx_.cell (a := ⟨w.heap.size, 6, none⟩) (by first | (go_simp; rfl) | rfl)); have b_w1_1_0 := stays (hx_.cell (a := ⟨w.heap.size + 1, 0, none⟩) (by first | (go_simp; rfl) | rfl)); have b_w1_1_1 := stays (hx_.cell (a := ⟨w.heap.size + 1, 1, none⟩) (by first | (go_simp; rfl) | rfl)); have b_w1_1_2 := stays (hx_.cell (a := ⟨w.heap.size + 1, 2, none⟩) (by first | (go_simp; rfl) | rfl)); have b_w1_1_3 := stays (hx_.cell (a := ⟨w.heap.size + 1, 3, none⟩) (by first | (go_simp; rfl) | rfl)); clear hx_)
  rw [HH.out]
  unfold hasCells
  dsimp only
  go_wp2_with (go_at_call 80; refine (belB_c _ _ _).mono ?_; rintro _ _ ⟨rfl, rfl⟩)
  all_goals (try (go_ret; refine ⟨ret_bool ?_, (by repeat (first | assumption | exact Ext.refl _ | exact Ext.of_xt _ _ | apply Ext.alloc | apply Ext.drewN | apply Ext.drew))⟩; first | (simp_all [insH, noneB, kindB, beqI]; done) | (simp_all [insH, noneB, kindB, beqI]; first | omega | (intros; omega) | (rw [Bool.eq_iff_iff]; simp; omega))))
  refine (all_c r x.args A5 c5 _ (Ext.C (by repeat (first | assumption | exact Ext.refl _ | exact Ext.of_xt _ _ | apply Ext.alloc | apply Ext.drewN | apply Ext.drew)) HA.out)).mono ?_
  (rintro _ w2 ⟨rfl, hx_⟩; have e_w_w2 : Ext w w2 := Ext.trans (by repeat (first | assumption | exact Ext.refl _ | exact Ext.of_xt _ _ | apply Ext.alloc | apply Ext.drewN | apply Ext.drew)) hx_; have e_w1_w2 : Ext w1 w2 := Ext.trans (by repeat (first | assumption | exact Ext.refl _ | exact Ext.of_xt _ _ | apply Ext.alloc | apply Ext.drewN | apply Ext.drew)) hx_; have b_w2_0_0 := stays (hx_.cell (a := ⟨w1.heap.size, 0, none⟩) (by first | (go_simp; rfl) | rfl)); have b_w2_0_1 := stays (hx_.cell (a := ⟨w1.heap.size, 1, none⟩) (by first | (go_simp; rfl) | rfl)); have b_w2_0_2 := stays (hx_.cell (a := ⟨w1.heap.size, 2, none⟩) (by first | (go_simp; rfl) | rfl)); have b_w2_0_3 := stays (hx_.cell (a := ⟨w1.heap.size, 3, none⟩) (by first | (go_simp; rfl) | rfl)); have b_w2_0_4 := stays (hx_.cell (a := ⟨w1.heap.size, 4, none⟩) (by first | (go_simp; rfl) | rfl)); have b_w2_0_5 := stays (hx_.cell (a := ⟨w1.heap.size, 5, none⟩) (by first | (go_simp; rfl) | rfl)); clear hx_)
  cases hq : bel x.args r with
  | false =>
    go_wp2
    (go_ret; refine ⟨ret_bool ?_, (by repeat (first | assumption | exact Ext.refl _ | exact Ext.of_xt _ _ | apply Ext.alloc | apply Ext.drewN | apply Ext.drew))⟩; first | (simp_all [insH, noneB, kindB, beqI]; done) | (simp_all [insH, noneB, kindB, beqI]; first | omega | (intros; omega) | (rw [Bool.eq_iff_iff]; simp; omega)))
  | true =>
    go_wp2_with fail
    refine (numB_c x A5 c5 A6 c6 t f r b _).mono ?_
    (rintro _ w3 ⟨rfl, hx_⟩; have e_w_w3 : Ext w w3 := Ext.trans (by repeat (first | assumption | exact Ext.refl _ | exact Ext.of_xt _ _ | apply Ext.alloc | apply Ext.drewN | apply Ext.drew)) hx_; have e_w1_w3 : Ext w1 w3 := Ext.trans (by repeat (first | assumption | exact Ext.refl _ | exact Ext.of_xt _ _ | apply Ext.alloc | apply Ext.drewN | apply Ext.drew)) hx_; have e_w2_w3 : Ext w2 w3 := Ext.trans (by repeat (first | assumption | exact Ext.refl _ | exact Ext.of_xt _ _ | apply Ext.alloc | apply Ext.drewN | apply Ext.drew)) hx_; clear hx_)
    cases hn : numB x f with
    | false =>
      go_wp2
      (go_ret; refine ⟨ret_bool ?_, (by repeat (first | assumption | exact Ext.refl _ | exact Ext.of_xt _ _ | apply Ext.alloc | apply Ext.drewN | apply Ext.drew))⟩; first | (simp_all [insH, noneB, kindB, beqI]; done) | (simp_all [insH, noneB, kindB, beqI]; first | omega | (intros; omega) | (rw [Bool.eq_iff_iff]; simp; omega)))
    | true =>
      rcases (show decide (0 < x.args.length) = true ∨ decide (0 < x.args.length) = false by cases decide (0 < x.args.length) <;> simp) with hal | hal
      all_goals (
        rcases (show decide (0 < x.froms.length) = true ∨ decide (0 < x.froms.length) = false by cases decide (0 < x.froms.length) <;> simp) with hfl | hfl
        all_goals (
          go_wp2_with (go_at_call 80; refine (belB_c _ _ _).mono ?_; rintro _ _ ⟨rfl, rfl⟩)
          all_goals (go_ret; refine ⟨ret_bool ?_, (by repeat (first | assumption | exact Ext.refl _ | exact Ext.of_xt _ _ | apply Ext.alloc | apply Ext.drewN | apply Ext.drew))⟩; first | (simp_all [insH, noneB, kindB, beqI]; done) | (simp_all [insH, noneB, kindB, beqI]; first | omega | (intros; omega) | (rw [Bool.eq_iff_iff]; simp; omega)))))

set_option maxRecDepth 100000 in
set_option maxHeartbeats 4000000 in
theorem ins_p8 (x : Ins) (A5 : Option Addr) (c5 : Nat) (A6 : Option Addr) (c6 : Nat) (t f r b : Int) (w : World) (hh : hasOf x.op = ⟨false, false, true, true, false, true⟩) (h0 : 0 ≤ x.op) (h1 : x.op ≤ 255) (hT : Tab w)
    (hA : Kd.C (Kd.int .i64) w A5 x.args.length x.args) (hF : Kd.C (Kd.int .i64) w A6 x.froms.length x.froms) :
    Calls Tryd.prog 142 #[vIns x A5 c5 A6 c6, vSz t f r b] w fun e w' => e = .returned (.bool (insH x ⟨false, false, true, true, false, true⟩ t f r b)) ∧ Ext w w' := by
  have HA := Aside0.mk hA
  have HF := Aside0.mk hF
  have HT := Aside0.mk hT
  have HH := Aside0.mk hh
  clear hA hF hT hh
  unfold vIns vSz
  go_enter Tryd.func142, Tryd.ntmps142
  go_wp2_with fail
  refine (hasOf_c x.op h0 h1 _ (HT.out.ext (by repeat (first | assumption | exact Ext.refl _ | exact Ext.of_xt _ _ | apply Ext.alloc | apply Ext.drewN | apply Ext.drew)))).mono ?_
  (rintro _ w1 ⟨rfl, hx_⟩; have e_w_w1 : Ext w w1 := Ext.trans (by repeat (first | assumption | exact Ext.refl _ | exact Ext.of_xt _ _ | apply Ext.alloc | apply Ext.drewN | apply Ext.drew)) hx_; have b_w1_0_0 := stays (hx_.cell (a := ⟨w.heap.size, 0, none⟩) (by first | (go_simp; rfl) | rfl)); have b_w1_0_1 := stays (hx_.cell (a := ⟨w.heap.size, 1, none⟩) (by first | (go_simp; rfl) | rfl)); have b_w1_0_2 := stays (hx_.cell (a := ⟨w.heap.size, 2, none⟩) (by first | (go_simp; rfl) | rfl)); have b_w1_0_3 := stays (hx_.cell (a := ⟨w.heap.size, 3, none⟩) (by first | (go_simp; rfl) | rfl)); have b_w1_0_4 := stays (hx_.cell (a := ⟨w.heap.size, 4, none⟩) (by first | (go_simp; rfl) | rfl)); have b_w1_0_5 := stays (hx_.cell (a := ⟨w.heap.size, 5, none⟩) (by first | (go_simp; rfl) | rfl)); have b_w1_0_6 := stays (hx_.cell (a := ⟨w.heap.size, 6, none⟩) (by first | (go_simp; rfl) | rfl)); have b_w1_1_0 := stays (hx_.cell (a := ⟨w.heap.size + 1, 0, none⟩) (by first | (go_simp; rfl) | rfl)); have b_w1_1_1 := stays (hx_.cell (a := ⟨w.heap.size + 1, 1, none⟩) (by first | (go_simp; rfl) | rfl)); have b_w1_1_2 := stays (hx_.cell (a := ⟨w.heap.size + 1, 2, none⟩) (by first | (go_simp; rfl) | rfl)); have b_w1_1_3 := stays (hx_.cell (a := ⟨w.heap.size + 1, 3, none⟩) (by first | (go_simp; rfl) | rfl)); clear hx_)
  rw [HH.out]
  unfold hasCells
  dsimp only
  go_wp2_with (go_at_call 80; refine (belB_c _ _ _).mono ?_; rintro _ _ ⟨rfl, rfl⟩)
  all_goals (try (go_ret; refine ⟨ret_bool ?_, (by repeat (first | assumption | exact Ext.refl _ | exact Ext.of_xt _ _ | apply Ext.alloc | apply Ext.drewN | apply Ext.drew))⟩; first | (simp_all [insH, noneB, kindB, beqI]; done) | (simp_all [insH, noneB, kindB, beqI]; first | omega | (intros; omega) | (rw [Bool.eq_iff_iff]; simp; omega))))
  refine (all_c r x.args A5 c5 _ (Ext.C (by repeat (first | assumption | exact Ext.refl _ | exact Ext.of_xt _ _ | apply Ext.alloc | apply Ext.drewN | apply Ext.drew)) HA.out)).mono ?_
  (rintro _ w2 ⟨rfl, hx_⟩; have e_w_w2 : Ext w w2 := Ext.trans (by repeat (first | assumption | exact Ext.refl _ | exact Ext.of_xt _ _ | apply Ext.alloc | apply Ext.drewN | apply Ext.drew)) hx_; have e_w1_w2 : Ext w1 w2 := Ext.trans (by repeat (first | assumption | exact Ext.refl _ | exact Ext.of_xt _ _ | apply Ext.alloc | apply Ext.drewN | apply Ext.drew)) hx_; have b_w2_0_0 := stays (hx_.cell (a := ⟨w1.heap.size, 0, none⟩) (by first | (go_simp; rfl) | rfl)); have b_w2_0_1 := stays (hx_.cell (a := ⟨w1.heap.size, 1, none⟩) (by first | (go_simp; rfl) | rfl)); have b_w2_0_2 := stays (hx_.cell (a := ⟨w1.heap.size, 2, none⟩) (by first | (go_simp; rfl) | rfl)); have b_w2_0_3 := stays (hx_.cell (a := ⟨w1.heap.size, 3, none⟩) (by first | (go_simp; rfl) | rfl)); have b_w2_0_4 := stays (hx_.cell (a := ⟨w1.heap.size, 4, none⟩) (by first | (go_simp; rfl) | rfl)); have b_w2_0_5 := stays (hx_.cell (a := ⟨w1.heap.size, 5, none⟩) (by first | (go_simp; rfl) | rfl)); clear hx_)
  cases hq : bel x.args r with
  | false =>
    go_wp2
    (go_ret; refine ⟨ret_bool ?_, (by repeat (first | assumption | exact Ext.refl _ | exact Ext.of_xt _ _ | apply Ext.alloc | apply Ext.drewN | apply Ext.drew))⟩; first | (simp_all [insH, noneB, kindB, beqI]; done) | (simp_all [insH, noneB, kindB, beqI]; first | omega | (intros; omega) | (rw [Bool.eq_iff_iff]; simp; omega)))
  | true =>
    go_wp2_with fail
    refine (numB_c x A5 c5 A6 c6 t f r b _).mono ?_
    (rintro _ w3 ⟨rfl, hx_⟩; have e_w_w3 : Ext w w3 := Ext.trans (by repeat (first | assumption | exact Ext.refl _ | exact Ext.of_xt _ _ | apply Ext.alloc | apply Ext.drewN | apply Ext.drew)) hx_; have e_w1_w3 : Ext w1 w3 := Ext.trans (by repeat (first | assumption | exact Ext.refl _ | exact Ext.of_xt _ _ | apply Ext.alloc | apply Ext.drewN | apply Ext.drew)) hx_; have e_w2_w3 : Ext w2 w3 := Ext.trans (by repeat (first | assumption | exact Ext.refl _ | exact Ext.of_xt _ _ | apply Ext.alloc | apply Ext.drewN | apply Ext.drew)) hx_; clear hx_)
    cases hn : numB x f with
    | false =>
      go_wp2
      (go_ret; refine ⟨ret_bool ?_, (by repeat (first | assumption | exact Ext.refl _ | exact Ext.of_xt _ _ | apply Ext.alloc | apply Ext.drewN | apply Ext.drew))⟩; first | (simp_all [insH, noneB, kindB, beqI]; done) | (simp_all [insH, noneB, kindB, beqI]; first | omega | (intros; omega) | (rw [Bool.eq_iff_iff]; simp; omega)))
    | true =>
      rcases (show decide (0 < x.froms.length) = true ∨ decide (0 < x.froms.length) = false by cases decide (0 < x.froms.length) <;> simp) with hfl | hfl
      all_goals (
        go_wp2_with (go_at_call 80; refine (belB_c _ _ _).mono ?_; rintro _ _ ⟨rfl, rfl⟩)
        all_goals (go_ret; refine ⟨ret_bool ?_, (by repeat (first | assumption | exact Ext.refl _ | exact Ext.of_xt _ _ | apply Ext.alloc | apply Ext.drewN | apply Ext.drew))⟩; first | (simp_all [insH, noneB, kindB, beqI]; done) | (simp_all [insH, noneB, kindB, beqI]; first | omega | (intros; omega) | (rw [Bool.eq_iff_iff]; simp; omega))))

set_option maxRecDepth 100000 in
set_option maxHeartbeats 4000000 in
theorem ins_p9 (x : Ins) (A5 : Option Addr) (c5 : Nat) (A6 : Option Addr) (c6 : Nat) (t f r b : Int) (w : World) (hh : hasOf x.op = ⟨true, false, false, true, false, true⟩) (h0 : 0 ≤ x.op) (h1 : x.op ≤ 255) (hT : Tab w)
    (hA : Kd.C (Kd.int .i64) w A5 x.args.length x.args) (hF : Kd.C (Kd.int .i64) w A6 x.froms.length x.froms) :
    Calls Tryd.prog 142 #[vIns x A5 c5 A6 c6, vSz t f r b] w fun e w' => e = .returned (.bool (insH x ⟨true, false, false, true, false, true⟩ t f r b)) ∧ Ext w w' := by
  have HA := Aside0.mk hA
  have HF := Aside0.mk hF
  have HT := Aside0.mk hT
  have HH := Aside0.mk hh
  clear hA hF hT hh
  unfold vIns vSz
  go_enter Tryd.func142, Tryd.ntmps142
  go_wp2_with fail
  refine (hasOf_c x.op h0 h1 _ (HT.out.ext (by repeat (first | assumption | exact Ext.refl _ | exact Ext.of_xt _ _ | apply Ext.alloc | apply Ext.drewN | apply Ext.drew)))).mono ?_
  (rintro _ w1 ⟨rfl, hx_⟩; have e_w_w1 : Ext w w1 := Ext.trans (by repeat (first | assumption | exact Ext.refl _ | exact Ext.of_xt _ _ | apply Ext.alloc | apply Ext.drewN | apply Ext.drew)) hx_; have b_w1_0_0 := stays (hx_.cell (a := ⟨w.heap.size, 0, none⟩) (by first | (go_simp; rfl) | rfl)); have b_w1_0_1 := stays (hx_.cell (a := ⟨w.heap.size, 1, none⟩) (by first | (go_simp; rfl) | rfl)); have b_w1_0_2 := stays (hx_.cell (a := ⟨w.heap.size, 2, none⟩) (by first | (go_simp; rfl) | rfl)); have b_w1_0_3 := stays (hx_.cell (a := ⟨w.heap.size, 3, none⟩) (by first | (go_simp; rfl) | rfl)); have b_w1_0_4 := stays (hx_.cell (a := ⟨w.heap.size, 4, none⟩) (by first | (go_simp; rfl) | rfl)); have b_w1_0_5 := stays (hx_.cell (a := ⟨w.heap.size, 5, none⟩) (by first | (go_simp; rfl) | rfl)); have b_w1_0_6 := stays (hx_.cell (a := ⟨w.heap.size, 6, none⟩) (by first | (go_simp; rfl) | rfl)); have b_w1_1_0 := stays (hx_.cell (a := ⟨w.heap.size + 1, 0, none⟩) (by first | (go_simp; rfl) | rfl)); have b_w1_1_1 := stays (hx_.cell (a := ⟨w.heap.size + 1, 1, none⟩) (by first | (go_simp; rfl) | rfl)); have b_w1_1_2 := stays (hx_.cell (a := ⟨w.heap.size + 1, 2, none⟩) (by first | (go_simp; rfl) | rfl)); have b_w1_1_3 := stays (hx_.cell (a := ⟨w.heap.size + 1, 3, none⟩) (by first | (go_simp; rfl) | rfl)); clear hx_)
  rw [HH.out]
  unfold hasCells
  dsimp only
  go_wp2_with (go_at_call 80; refine (belB_c _ _ _).mono ?_; rintro _ _ ⟨rfl, rfl⟩)
  all_goals (try (go_ret; refine ⟨ret_bool ?_, (by repeat (first | assumption | exact Ext.refl _ | exact Ext.of_xt _ _ | apply Ext.alloc | apply Ext.drewN | apply Ext.drew))⟩; first | (simp_all [insH, noneB, kindB, beqI]; done) | (simp_all [insH, noneB, kindB, beqI]; first | omega | (intros; omega) | (rw [Bool.eq_iff_iff]; simp; omega))))
  refine (all_c r x.args A5 c5 _ (Ext.C (by repeat (first | assumption | exact Ext.refl _ | exact Ext.of_xt _ _ | apply Ext.alloc | apply Ext.drewN | apply Ext.drew)) HA.out)).mono ?_
  (rintro _ w2 ⟨rfl, hx_⟩; have e_w_w2 : Ext w w2 := Ext.trans (by repeat (first | assumption | exact Ext.refl _ | exact Ext.of_xt _ _ | apply Ext.alloc | apply Ext.drewN | apply Ext.drew)) hx_; have e_w1_w2 : Ext w1 w2 := Ext.trans (by repeat (first | assumption | exact Ext.refl _ | exact Ext.of_xt _ _ | apply Ext.alloc | apply Ext.drewN | apply Ext.drew)) hx_; have b_w2_0_0 := stays (hx_.cell (a := ⟨w1.heap.size, 0, none⟩) (by first | (go_simp; rfl) | rfl)); have b_w2_0_1 := stays (hx_.cell (a := ⟨w1.heap.size, 1, none⟩) (by first | (go_simp; rfl) | rfl)); have b_w2_0_2 := stays (hx_.cell (a := ⟨w1.heap.size, 2, none⟩) (by first | (go_simp; rfl) | rfl)); have b_w2_0_3 := stays (hx_.cell (a := ⟨w1.heap.size, 3, none⟩) (by first | (go_simp; rfl) | rfl)); have b_w2_0_4 := stays (hx_.cell (a := ⟨w1.heap.size, 4, none⟩) (by first | (go_simp; rfl) | rfl)); have b_w2_0_5 := stays (hx_.cell (a := ⟨w1.heap.size, 5, none⟩) (by first | (go_simp; rfl) | rfl)); clear hx_)
  cases hq : bel x.args r with
  | false =>
    go_wp2
    (go_ret; refine ⟨ret_bool ?_, (by repeat (first | assumption | exact Ext.refl _ | exact Ext.of_xt _ _ | apply Ext.alloc | apply Ext.drewN | apply Ext.drew))⟩; first | (simp_all [insH, noneB, kindB, beqI]; done) | (simp_all [insH, noneB, kindB, beqI]; first | omega | (intros; omega) | (rw [Bool.eq_iff_iff]; simp; omega)))
  | true =>
    go_wp2_with fail
    refine (numB_c x A5 c5 A6 c6 t f r b _).mono ?_
    (rintro _ w3 ⟨rfl, hx_⟩; have e_w_w3 : Ext w w3 := Ext.trans (by repeat (first | assumption | exact Ext.refl _ | exact Ext.of_xt _ _ | apply Ext.alloc | apply Ext.drewN | apply Ext.drew)) hx_; have e_w1_w3 : Ext w1 w3 := Ext.trans (by repeat (first | assumption | exact Ext.refl _ | exact Ext.of_xt _ _ | apply Ext.alloc | apply Ext.drewN | apply Ext.drew)) hx_; have e_w2_w3 : Ext w2 w3 := Ext.trans (by repeat (first | assumption | exact Ext.refl _ | exact Ext.of_xt _ _ | apply Ext.alloc | apply Ext.drewN | apply Ext.drew)) hx_; clear hx_)
    cases hn : numB x f with
    | false =>
      go_wp2
      (go_ret; refine ⟨ret_bool ?_, (by repeat (first | assumption | exact Ext.refl _ | exact Ext.of_xt _ _ | apply Ext.alloc | apply Ext.drewN | apply Ext.drew))⟩; first | (simp_all [insH, noneB, kindB, beqI]; done) | (simp_all [insH, noneB, kindB, beqI]; first | omega | (intros; omega) | (rw [Bool.eq_iff_iff]; simp; omega)))
    | true =>
      rcases (show decide (0 < x.froms.length) = true ∨ decide (0 < x.froms.length) = false by cases decide (0 < x.froms.length) <;> simp) with hfl | hfl
      all_goals (
        go_wp2_with (go_at_call 80; refine (belB_c _ _ _).mono ?_; rintro _ _ ⟨rfl, rfl⟩)
        all_goals (go_ret; refine ⟨ret_bool ?_, (by repeat (first | assumption | exact Ext.refl _ | exact Ext.of_xt _ _ | apply Ext.alloc | apply Ext.drewN | apply Ext.drew))⟩; first | (simp_all [insH, noneB, kindB, beqI]; done) | (simp_all [insH, noneB, kindB, beqI]; first | omega | (intros; omega) | (rw [Bool.eq_iff_iff]; simp; omega))))

set_option maxRecDepth 100000 in
set_option maxHeartbeats 4000000 in
theorem ins_p10 (x : Ins) (A5 : Option Addr) (c5 : Nat) (A6 : Option Addr) (c6 : Nat) (t f r b : Int) (w : World) (hh : hasOf x.op = ⟨false, false, false, true, true, true⟩) (h0 : 0 ≤ x.op) (h1 : x.op ≤ 255) (hT : Tab w)
    (hA : Kd.C (Kd.int .i64) w A5 x.args.length x.args) (hF : Kd.C (Kd.int .i64) w A6 x.froms.length x.froms) :
    Calls Tryd.prog 142 #[vIns x A5 c5 A6 c6, vSz t f r b] w fun e w' => e = .returned (.bool (insH x ⟨false, false, false, true, true, true⟩ t f r b)) ∧ Ext w w' := by
  have HA := Aside0.mk hA
  have HF := Aside0.mk hF
  have HT := Aside0.mk hT
  have HH := Aside0.mk hh
  clear hA hF hT hh
  unfold vIns vSz
  go_enter Tryd.func142, Tryd.ntmps142
  go_wp2_with fail
  refine (hasOf_c x.op h0 h1 _ (HT.out.ext (by repeat (first | assumption | exact Ext.refl _ | exact Ext.of_xt _ _ | apply Ext.alloc | apply Ext.drewN | apply Ext.drew)))).mono ?_
  (rintro _ w1 ⟨rfl, hx_⟩; have e_w_w1 : Ext w w1 := Ext.trans (by repeat (first | assumption | exact Ext.refl _ | exact Ext.of_xt _ _ | apply Ext.alloc | apply Ext.drewN | apply Ext.drew)) hx_; have b_w1_0_0 := stays (hx_.cell (a := ⟨w.heap.size, 0, none⟩) (by first | (go_simp; rfl) | rfl)); have b_w1_0_1 := stays (hx_.cell (a := ⟨w.heap.size, 1, none⟩) (by first | (go_simp; rfl) | rfl)); have b_w1_0_2 := stays (hx_.cell (a := ⟨w.heap.size, 2, none⟩) (by first | (go_simp; rfl) | rfl)); have b_w1_0_3 := stays (hx_.cell (a := ⟨w.heap.size, 3, none⟩) (by first | (go_simp; rfl) | rfl)); have b_w1_0_4 := stays (hx_.cell (a := ⟨w.heap.size, 4, none⟩) (by first | (go_simp; rfl) | rfl)); have b_w1_0_5 := stays (hx_.cell (a := ⟨w.heap.size, 5, none⟩) (by first | (go_simp; rfl) | rfl)); have b_w1_0_6 := stays (hx_.cell (a := ⟨w.heap.size, 6, none⟩) (by first | (go_simp; rfl) | rfl)); have b_w1_1_0 := stays (hx_.cell (a := ⟨w.heap.size + 1, 0, none⟩) (by first | (go_simp; rfl) | rfl)); have b_w1_1_1 := stays (hx_.cell (a := ⟨w.heap.size + 1, 1, none⟩) (by first | (go_simp; rfl) | rfl)); have b_w1_1_2 := stays (hx_.cell (a := ⟨w.heap.size + 1, 2, none⟩) (by first | (go_simp; rfl) | rfl)); have b_w1_1_3 := stays (hx_.cell (a := ⟨w.heap.size + 1, 3, none⟩) (by first | (go_simp; rfl) | rfl)); clear hx_)
  rw [HH.out]
  unfold hasCells
  dsimp only
  go_wp2_with (go_at_call 80; refine (belB_c _ _ _).mono ?_; rintro _ _ ⟨rfl, rfl⟩)
  all_goals (try (go_ret; refine ⟨ret_bool ?_, (by repeat (first | assumption | exact Ext.refl _ | exact Ext.of_xt _ _ | apply Ext.alloc | apply Ext.drewN | apply Ext.drew))⟩; first | (simp_all [insH, noneB, kindB, beqI]; done) | (simp_all [insH, noneB, kindB, beqI]; first | omega | (intros; omega) | (rw [Bool.eq_iff_iff]; simp; omega))))
  refine (all_c r x.args A5 c5 _ (Ext.C (by repeat (first | assumption | exact Ext.refl _ | exact Ext.of_xt _ _ | apply Ext.alloc | apply Ext.drewN | apply Ext.drew)) HA.out)).mono ?_
  (rintro _ w2 ⟨rfl, hx_⟩; have e_w_w2 : Ext w w2 := Ext.trans (by repeat (first | assumption | exact Ext.refl _ | exact Ext.of_xt _ _ | apply Ext.alloc | apply Ext.drewN | apply Ext.drew)) hx_; have e_w1_w2 : Ext w1 w2 := Ext.trans (by repeat (first | assumption | exact Ext.refl _ | exact Ext.of_xt _ _ | apply Ext.alloc | apply Ext.drewN | apply Ext.drew)) hx_; have b_w2_0_0 := stays (hx_.cell (a := ⟨w1.heap.size, 0, none⟩) (by first | (go_simp; rfl) | rfl)); have b_w2_0_1 := stays (hx_.cell (a := ⟨w1.heap.size, 1, none⟩) (by first | (go_simp; rfl) | rfl)); have b_w2_0_2 := stays (hx_.cell (a := ⟨w1.heap.size, 2, none⟩) (by first | (go_simp; rfl) | rfl)); have b_w2_0_3 := stays (hx_.cell (a := ⟨w1.heap.size, 3, none⟩) (by first | (go_simp; rfl) | rfl)); have b_w2_0_4 := stays (hx_.cell (a := ⟨w1.heap.size, 4, none⟩) (by first | (go_simp; rfl) | rfl)); have b_w2_0_5 := stays (hx_.cell (a := ⟨w1.heap.size, 5, none⟩) (by first | (go_simp; rfl) | rfl)); clear hx_)
  cases hq : bel x.args r with
  | false =>
    go_wp2
    (go_ret; refine ⟨ret_bool ?_, (by repeat (first | assumption | exact Ext.refl _ | exact Ext.of_xt _ _ | apply Ext.alloc | apply Ext.drewN | apply Ext.drew))⟩; first | (simp_all [insH, noneB, kindB, beqI]; done) | (simp_all [insH, noneB, kindB, beqI]; first | omega | (intros; omega) | (rw [Bool.eq_iff_iff]; simp; omega)))
  | true =>
    go_wp2_with fail
    refine (numB_c x A5 c5 A6 c6 t f r b _).mono ?_
    (rintro _ w3 ⟨rfl, hx_⟩; have e_w_w3 : Ext w w3 := Ext.trans (by repeat (first | assumption | exact Ext.refl _ | exact Ext.of_xt _ _ | apply Ext.alloc | apply Ext.drewN | apply Ext.drew)) hx_; have e_w1_w3 : Ext w1 w3 := Ext.trans (by repeat (first | assumption | exact Ext.refl _ | exact Ext.of_xt _ _ | apply Ext.alloc | apply Ext.drewN | apply Ext.drew)) hx_; have e_w2_w3 : Ext w2 w3 := Ext.trans (by repeat (first | assumption | exact Ext.refl _ | exact Ext.of_xt _ _ | apply Ext.alloc | apply Ext.drewN | apply Ext.drew)) hx_; clear hx_)
    cases hn : numB x f with
    | false =>
      go_wp2
      (go_ret; refine ⟨ret_bool ?_, (by repeat (first | assumption | exact Ext.refl _ | exact Ext.of_xt _ _ | apply Ext.alloc | apply Ext.drewN | apply Ext.drew))⟩; first | (simp_all [insH, noneB, kindB, beqI]; done) | (simp_all [insH, noneB, kindB, beqI]; first | omega | (intros; omega) | (rw [Bool.eq_iff_iff]; simp; omega)))
    | true =>
      go_wp2_with (go_at_call 80; refine (belB_c _ _ _).mono ?_; rintro _ _ ⟨rfl, rfl⟩)
      all_goals (try (go_ret; refine ⟨ret_bool ?_, (by repeat (first | assumption | exact Ext.refl _ | exact Ext.of_xt _ _ | apply Ext.alloc | apply Ext.drewN | apply Ext.drew))⟩; first | (simp_all [insH, noneB, kindB, beqI]; done) | (simp_all [insH, noneB, kindB, beqI]; first | omega | (intros; omega) | (rw [Bool.eq_iff_iff]; simp; omega))))
      all_goals (
        refine (all_c b x.froms A6 c6 _ (Ext.C (by repeat (first | assumption | exact Ext.refl _ | exact Ext.of_xt _ _ | apply Ext.alloc | apply Ext.drewN | apply Ext.drew)) HF.out)).mono ?_
        (rintro _ w4 ⟨rfl, hx_⟩; have e_w_w4 : Ext w w4 := Ext.trans (by repeat (first | assumption | exact Ext.refl _ | exact Ext.of_xt _ _ | apply Ext.alloc | apply Ext.drewN | apply Ext.drew)) hx_; have e_w1_w4 : Ext w1 w4 := Ext.trans (by repeat (first | assumption | exact Ext.refl _ | exact Ext.of_xt _ _ | apply Ext.alloc | apply Ext.drewN | apply Ext.drew)) hx_; have e_w2_w4 : Ext w2 w4 := Ext.trans (by repeat (first | assumption | exact Ext.refl _ | exact Ext.of_xt _ _ | apply Ext.alloc | apply Ext.drewN | apply Ext.drew)) hx_; have e_w3_w4 : Ext w3 w4 := Ext.trans (by repeat (first | assumption | exact Ext.refl _ | exact Ext.of_xt _ _ | apply Ext.alloc | apply Ext.drewN | apply Ext.drew)) hx_; clear hx_)
        cases hq4 : bel x.froms b with
        | false =>
          go_wp2
          (go_ret; refine ⟨ret_bool ?_, (by repeat (first | assumption | exact Ext.refl _ | exact Ext.of_xt _ _ | apply Ext.alloc | apply Ext.drewN | apply Ext.drew))⟩; first | (simp_all [insH, noneB, kindB, beqI]; done) | (simp_all [insH, noneB, kindB, beqI]; first | omega | (intros; omega) | (rw [Bool.eq_iff_iff]; simp; omega)))
        | true =>
          go_wp2
          all_goals (go_ret; refine ⟨ret_bool ?_, (by repeat (first | assumption | exact Ext.refl _ | exact Ext.of_xt _ _ | apply Ext.alloc | apply Ext.drewN | apply Ext.drew))⟩; first | (simp_all [insH, noneB, kindB, beqI]; done) | (simp_all [insH, noneB, kindB, beqI]; first | omega | (intros; omega) | (rw [Bool.eq_iff_iff]; simp; omega))))

end Go.Proofs.YtjbnabjjbofhjaaDoor.Fes
