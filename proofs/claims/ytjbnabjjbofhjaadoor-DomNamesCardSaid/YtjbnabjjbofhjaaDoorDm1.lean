/- DomNames: the errors' numbers, and more examples. -/
import Derived.Test.YtjbnabjjbofhjaaDoorDg3
import Derived.Test.YtjbnabjjbofhjaaDoorDo6
set_option linter.unusedVariables false
set_option linter.unusedSimpArgs false
namespace Go.Proofs.YtjbnabjjbofhjaaDoor.Fes
open Go.RowKit Go.Proofs.YtjbnabjjbofhjaaDoorW.PrintWords

def nameE : List En := [⟨3, 0, 0, 0⟩, ⟨1, 0, 0, 0⟩]
theorem name_sm : SmP (dOf nameE) := ⟨by decide, by decide, by decide, by decide, by decide, by decide⟩
theorem name_wf : WfP (dOf nameE) := by unfold WfP; decide
theorem nm_v0 : dnP (dOf nameE) 0 0 = -1 := by decide +kernel
theorem nm_e0 : domE (dOf nameE) 0 0 = 0 := by decide +kernel
theorem nm_v1 : dnP (dOf nameE) 0 1 = 0 := by decide +kernel
theorem nm_e1 : domE (dOf nameE) 0 1 = 6 := by decide +kernel
theorem nm_v2 : rlB (dOf nameE) 0 1 0 = false := by decide +kernel
theorem nm_e2 : rlE (dOf nameE) 0 1 0 = 0 := by decide +kernel
theorem nm_v3 : rlB (dOf nameE) 0 2 0 = false := by decide +kernel
theorem nm_e3 : rlE (dOf nameE) 0 2 0 = 2 := by decide +kernel
theorem nm_v4 : seB (dOf loopE) 0 1 2 0 = true := by decide +kernel
theorem nm_e4 : seE (dOf loopE) 0 1 2 0 = 0 := by decide +kernel
theorem nm_v5 : seB (dOf loopE) 0 2 3 1 = false := by decide +kernel
theorem nm_e5 : seE (dOf loopE) 0 2 3 1 = 0 := by decide +kernel
theorem nm_v6 : seB (dOf loopE) 0 1 1 0 = false := by decide +kernel
theorem nm_e6 : seE (dOf loopE) 0 1 1 0 = 0 := by decide +kernel
theorem nm_v7 : seB (dOf loopE) 0 1 1 1 = true := by decide +kernel
theorem nm_e7 : seE (dOf loopE) 0 1 1 1 = 0 := by decide +kernel
theorem nm_v8 : seB (dOf loopE) 0 0 0 2 = false := by decide +kernel
theorem nm_e8 : seE (dOf loopE) 0 0 0 2 = 2 := by decide +kernel
theorem nm_v9 : seB (dOf nameE) 0 0 1 0 = false := by decide +kernel
theorem nm_e9 : seE (dOf nameE) 0 0 1 0 = 6 := by decide +kernel

set_option maxRecDepth 100000 in
set_option maxHeartbeats 8000000 in
theorem domNames_c (w : World) (hT : Tab w) : Calls Tryd.prog 11 #[] w fun e w' => e = .returned (.bool true) ∧ Ext w w' := by
  have HT := Aside0.mk hT
  clear hT
  have HC := Aside0.mk (C_chunks (d := kEn) (xs := nameE) (heap_new w (.cells #[.int .u8 3, .int .i64 0, .int .i64 0, .int .i64 0, .int .u8 1, .int .i64 0, .int .i64 0, .int .i64 0] 45)) (.cons (kEn_mk _ ⟨3, 0, 0, 0⟩) (.cons (kEn_mk _ ⟨1, 0, 0, 0⟩) .nil)) (by decide))
  go_enter Tryd.func11, Tryd.ntmps11
  go_wp2_with fail
  refine (of10_c nameE (some ⟨w.heap.size, 0, none⟩) 2 _ (by decide) HC.out).mono ?_
  rintro _ w1 ⟨P0, P1, p0, p1, rfl, hp1, hx_⟩
  have e_w_w1 : Ext w w1 := Ext.trans (Ext.alloc (Ext.refl _) _) hx_
  have HP1 := Aside0.mk hp1.at_
  clear hp1 hx_ HC
  unfold vPrg
  go_upto_region 2 with (fail)
  (have e_w_W0 : Ext w (w1.alloc (.cells #[.slice P0 (dOf nameE).types.length p0, .slice P1 (dOf nameE).funcs.length p1] 25)) := (by repeat (first | assumption | exact Ext.refl _ | exact Ext.of_xt _ _ | apply Ext.alloc | apply Ext.drewN | apply Ext.drew)); have e_w1_W0 : Ext w1 (w1.alloc (.cells #[.slice P0 (dOf nameE).types.length p0, .slice P1 (dOf nameE).funcs.length p1] 25)) := (by repeat (first | assumption | exact Ext.refl _ | exact Ext.of_xt _ _ | apply Ext.alloc | apply Ext.drewN | apply Ext.drew)); have b_W0_0_0 := stays (w := w1.alloc (.cells #[.slice P0 (dOf nameE).types.length p0, .slice P1 (dOf nameE).funcs.length p1] 25)) (a := ⟨w1.heap.size, 0, none⟩) (by first | (go_simp; rfl) | rfl); have b_W0_0_1 := stays (w := w1.alloc (.cells #[.slice P0 (dOf nameE).types.length p0, .slice P1 (dOf nameE).funcs.length p1] 25)) (a := ⟨w1.heap.size, 1, none⟩) (by first | (go_simp; rfl) | rfl); generalize w1.alloc (.cells #[.slice P0 (dOf nameE).types.length p0, .slice P1 (dOf nameE).funcs.length p1] 25) = W0 at e_w_W0 e_w1_W0 b_W0_0_0 b_W0_0_1 ⊢)
  have e_W0_W0 : Ext W0 W0 := Ext.refl _
  go_wp2_with fail
  refine (domNext_c (dOf nameE) 0 0 P0 P1 p0 p1 _ (HT.out.ext (by repeat (first | assumption | exact Ext.refl _ | exact Ext.of_xt _ _ | apply Ext.alloc | apply Ext.drewN | apply Ext.drew))) name_sm name_wf (HP1.out.ext (by repeat (first | assumption | exact Ext.refl _ | exact Ext.of_xt _ _ | apply Ext.alloc | apply Ext.drewN | apply Ext.drew)))).mono ?_
  (rintro _ v0 ⟨rfl, hx_⟩; have e_w_v0 : Ext w v0 := Ext.trans (by repeat (first | assumption | exact Ext.refl _ | exact Ext.of_xt _ _ | apply Ext.alloc | apply Ext.drewN | apply Ext.drew)) hx_; have e_w1_v0 : Ext w1 v0 := Ext.trans (by repeat (first | assumption | exact Ext.refl _ | exact Ext.of_xt _ _ | apply Ext.alloc | apply Ext.drewN | apply Ext.drew)) hx_; have e_W0_v0 : Ext W0 v0 := Ext.trans (by repeat (first | assumption | exact Ext.refl _ | exact Ext.of_xt _ _ | apply Ext.alloc | apply Ext.drewN | apply Ext.drew)) hx_; clear hx_)
  rw [nm_v0, nm_e0]
  go_wp2_with fail
  refine (domNext_c (dOf nameE) 0 1 P0 P1 p0 p1 _ (HT.out.ext (by repeat (first | assumption | exact Ext.refl _ | exact Ext.of_xt _ _ | apply Ext.alloc | apply Ext.drewN | apply Ext.drew))) name_sm name_wf (HP1.out.ext (by repeat (first | assumption | exact Ext.refl _ | exact Ext.of_xt _ _ | apply Ext.alloc | apply Ext.drewN | apply Ext.drew)))).mono ?_
  (rintro _ v1 ⟨rfl, hx_⟩; have e_w_v1 : Ext w v1 := Ext.trans (by repeat (first | assumption | exact Ext.refl _ | exact Ext.of_xt _ _ | apply Ext.alloc | apply Ext.drewN | apply Ext.drew)) hx_; have e_w1_v1 : Ext w1 v1 := Ext.trans (by repeat (first | assumption | exact Ext.refl _ | exact Ext.of_xt _ _ | apply Ext.alloc | apply Ext.drewN | apply Ext.drew)) hx_; have e_W0_v1 : Ext W0 v1 := Ext.trans (by repeat (first | assumption | exact Ext.refl _ | exact Ext.of_xt _ _ | apply Ext.alloc | apply Ext.drewN | apply Ext.drew)) hx_; clear hx_)
  rw [nm_v1, nm_e1]
  go_wp2_with fail
  refine (domRules_c (dOf nameE) 0 1 0 P0 P1 p0 p1 _ (HT.out.ext (by repeat (first | assumption | exact Ext.refl _ | exact Ext.of_xt _ _ | apply Ext.alloc | apply Ext.drewN | apply Ext.drew))) name_sm name_wf (HP1.out.ext (by repeat (first | assumption | exact Ext.refl _ | exact Ext.of_xt _ _ | apply Ext.alloc | apply Ext.drewN | apply Ext.drew)))).mono ?_
  (rintro _ v2 ⟨rfl, hx_⟩; have e_w_v2 : Ext w v2 := Ext.trans (by repeat (first | assumption | exact Ext.refl _ | exact Ext.of_xt _ _ | apply Ext.alloc | apply Ext.drewN | apply Ext.drew)) hx_; have e_w1_v2 : Ext w1 v2 := Ext.trans (by repeat (first | assumption | exact Ext.refl _ | exact Ext.of_xt _ _ | apply Ext.alloc | apply Ext.drewN | apply Ext.drew)) hx_; have e_W0_v2 : Ext W0 v2 := Ext.trans (by repeat (first | assumption | exact Ext.refl _ | exact Ext.of_xt _ _ | apply Ext.alloc | apply Ext.drewN | apply Ext.drew)) hx_; clear hx_)
  rw [nm_v2, nm_e2]
  go_wp2_with fail
  refine (domRules_c (dOf nameE) 0 2 0 P0 P1 p0 p1 _ (HT.out.ext (by repeat (first | assumption | exact Ext.refl _ | exact Ext.of_xt _ _ | apply Ext.alloc | apply Ext.drewN | apply Ext.drew))) name_sm name_wf (HP1.out.ext (by repeat (first | assumption | exact Ext.refl _ | exact Ext.of_xt _ _ | apply Ext.alloc | apply Ext.drewN | apply Ext.drew)))).mono ?_
  (rintro _ v3 ⟨rfl, hx_⟩; have e_w_v3 : Ext w v3 := Ext.trans (by repeat (first | assumption | exact Ext.refl _ | exact Ext.of_xt _ _ | apply Ext.alloc | apply Ext.drewN | apply Ext.drew)) hx_; have e_w1_v3 : Ext w1 v3 := Ext.trans (by repeat (first | assumption | exact Ext.refl _ | exact Ext.of_xt _ _ | apply Ext.alloc | apply Ext.drewN | apply Ext.drew)) hx_; have e_W0_v3 : Ext W0 v3 := Ext.trans (by repeat (first | assumption | exact Ext.refl _ | exact Ext.of_xt _ _ | apply Ext.alloc | apply Ext.drewN | apply Ext.drew)) hx_; clear hx_)
  rw [nm_v3, nm_e3]
  go_wp2_with fail
  refine (loop10_c _).mono ?_
  rintro _ u4 ⟨Q0, Q1, q0, q1, rfl, hp_, hx_⟩
  have e_w_u4 := Ext.trans (a := w) (by repeat (first | assumption | exact Ext.refl _ | exact Ext.of_xt _ _ | apply Ext.alloc | apply Ext.drewN | apply Ext.drew)) hx_
  have e_W0_u4 := Ext.trans (a := W0) (by repeat (first | assumption | exact Ext.refl _ | exact Ext.of_xt _ _ | apply Ext.alloc | apply Ext.drewN | apply Ext.drew)) hx_
  have e_w1_u4 := Ext.trans (a := w1) (by repeat (first | assumption | exact Ext.refl _ | exact Ext.of_xt _ _ | apply Ext.alloc | apply Ext.drewN | apply Ext.drew)) hx_
  have HPL := Aside0.mk hp_.at_
  clear hp_ hx_
  go_wp2_with fail
  refine (domSet_c (dOf loopE) 0 1 2 0 Q0 Q1 q0 q1 _ (HT.out.ext e_w_u4) loop_sm loop_wf HPL.out).mono ?_
  (rintro _ v4 ⟨rfl, hx_⟩; have e_w_v4 : Ext w v4 := Ext.trans (by repeat (first | assumption | exact Ext.refl _ | exact Ext.of_xt _ _ | apply Ext.alloc | apply Ext.drewN | apply Ext.drew)) hx_; have e_w1_v4 : Ext w1 v4 := Ext.trans (by repeat (first | assumption | exact Ext.refl _ | exact Ext.of_xt _ _ | apply Ext.alloc | apply Ext.drewN | apply Ext.drew)) hx_; have e_W0_v4 : Ext W0 v4 := Ext.trans (by repeat (first | assumption | exact Ext.refl _ | exact Ext.of_xt _ _ | apply Ext.alloc | apply Ext.drewN | apply Ext.drew)) hx_; clear hx_)
  rw [nm_v4, nm_e4]
  clear HPL
  go_wp2_with fail
  refine (loop10_c _).mono ?_
  rintro _ u5 ⟨Q0, Q1, q0, q1, rfl, hp_, hx_⟩
  have e_w_u5 := Ext.trans (a := w) (by repeat (first | assumption | exact Ext.refl _ | exact Ext.of_xt _ _ | apply Ext.alloc | apply Ext.drewN | apply Ext.drew)) hx_
  have e_W0_u5 := Ext.trans (a := W0) (by repeat (first | assumption | exact Ext.refl _ | exact Ext.of_xt _ _ | apply Ext.alloc | apply Ext.drewN | apply Ext.drew)) hx_
  have e_w1_u5 := Ext.trans (a := w1) (by repeat (first | assumption | exact Ext.refl _ | exact Ext.of_xt _ _ | apply Ext.alloc | apply Ext.drewN | apply Ext.drew)) hx_
  have HPL := Aside0.mk hp_.at_
  clear hp_ hx_
  go_wp2_with fail
  refine (domSet_c (dOf loopE) 0 2 3 1 Q0 Q1 q0 q1 _ (HT.out.ext e_w_u5) loop_sm loop_wf HPL.out).mono ?_
  (rintro _ v5 ⟨rfl, hx_⟩; have e_w_v5 : Ext w v5 := Ext.trans (by repeat (first | assumption | exact Ext.refl _ | exact Ext.of_xt _ _ | apply Ext.alloc | apply Ext.drewN | apply Ext.drew)) hx_; have e_w1_v5 : Ext w1 v5 := Ext.trans (by repeat (first | assumption | exact Ext.refl _ | exact Ext.of_xt _ _ | apply Ext.alloc | apply Ext.drewN | apply Ext.drew)) hx_; have e_W0_v5 : Ext W0 v5 := Ext.trans (by repeat (first | assumption | exact Ext.refl _ | exact Ext.of_xt _ _ | apply Ext.alloc | apply Ext.drewN | apply Ext.drew)) hx_; clear hx_)
  rw [nm_v5, nm_e5]
  clear HPL
  go_wp2_with fail
  refine (loop10_c _).mono ?_
  rintro _ u6 ⟨Q0, Q1, q0, q1, rfl, hp_, hx_⟩
  have e_w_u6 := Ext.trans (a := w) (by repeat (first | assumption | exact Ext.refl _ | exact Ext.of_xt _ _ | apply Ext.alloc | apply Ext.drewN | apply Ext.drew)) hx_
  have e_W0_u6 := Ext.trans (a := W0) (by repeat (first | assumption | exact Ext.refl _ | exact Ext.of_xt _ _ | apply Ext.alloc | apply Ext.drewN | apply Ext.drew)) hx_
  have e_w1_u6 := Ext.trans (a := w1) (by repeat (first | assumption | exact Ext.refl _ | exact Ext.of_xt _ _ | apply Ext.alloc | apply Ext.drewN | apply Ext.drew)) hx_
  have HPL := Aside0.mk hp_.at_
  clear hp_ hx_
  go_wp2_with fail
  refine (domSet_c (dOf loopE) 0 1 1 0 Q0 Q1 q0 q1 _ (HT.out.ext e_w_u6) loop_sm loop_wf HPL.out).mono ?_
  (rintro _ v6 ⟨rfl, hx_⟩; have e_w_v6 : Ext w v6 := Ext.trans (by repeat (first | assumption | exact Ext.refl _ | exact Ext.of_xt _ _ | apply Ext.alloc | apply Ext.drewN | apply Ext.drew)) hx_; have e_w1_v6 : Ext w1 v6 := Ext.trans (by repeat (first | assumption | exact Ext.refl _ | exact Ext.of_xt _ _ | apply Ext.alloc | apply Ext.drewN | apply Ext.drew)) hx_; have e_W0_v6 : Ext W0 v6 := Ext.trans (by repeat (first | assumption | exact Ext.refl _ | exact Ext.of_xt _ _ | apply Ext.alloc | apply Ext.drewN | apply Ext.drew)) hx_; clear hx_)
  rw [nm_v6, nm_e6]
  clear HPL
  go_wp2_with fail
  refine (loop10_c _).mono ?_
  rintro _ u7 ⟨Q0, Q1, q0, q1, rfl, hp_, hx_⟩
  have e_w_u7 := Ext.trans (a := w) (by repeat (first | assumption | exact Ext.refl _ | exact Ext.of_xt _ _ | apply Ext.alloc | apply Ext.drewN | apply Ext.drew)) hx_
  have e_W0_u7 := Ext.trans (a := W0) (by repeat (first | assumption | exact Ext.refl _ | exact Ext.of_xt _ _ | apply Ext.alloc | apply Ext.drewN | apply Ext.drew)) hx_
  have e_w1_u7 := Ext.trans (a := w1) (by repeat (first | assumption | exact Ext.refl _ | exact Ext.of_xt _ _ | apply Ext.alloc | apply Ext.drewN | apply Ext.drew)) hx_
  have HPL := Aside0.mk hp_.at_
  clear hp_ hx_
  go_wp2_with fail
  refine (domSet_c (dOf loopE) 0 1 1 1 Q0 Q1 q0 q1 _ (HT.out.ext e_w_u7) loop_sm loop_wf HPL.out).mono ?_
  (rintro _ v7 ⟨rfl, hx_⟩; have e_w_v7 : Ext w v7 := Ext.trans (by repeat (first | assumption | exact Ext.refl _ | exact Ext.of_xt _ _ | apply Ext.alloc | apply Ext.drewN | apply Ext.drew)) hx_; have e_w1_v7 : Ext w1 v7 := Ext.trans (by repeat (first | assumption | exact Ext.refl _ | exact Ext.of_xt _ _ | apply Ext.alloc | apply Ext.drewN | apply Ext.drew)) hx_; have e_W0_v7 : Ext W0 v7 := Ext.trans (by repeat (first | assumption | exact Ext.refl _ | exact Ext.of_xt _ _ | apply Ext.alloc | apply Ext.drewN | apply Ext.drew)) hx_; clear hx_)
  rw [nm_v7, nm_e7]
  clear HPL
  go_wp2_with fail
  refine (loop10_c _).mono ?_
  rintro _ u8 ⟨Q0, Q1, q0, q1, rfl, hp_, hx_⟩
  have e_w_u8 := Ext.trans (a := w) (by repeat (first | assumption | exact Ext.refl _ | exact Ext.of_xt _ _ | apply Ext.alloc | apply Ext.drewN | apply Ext.drew)) hx_
  have e_W0_u8 := Ext.trans (a := W0) (by repeat (first | assumption | exact Ext.refl _ | exact Ext.of_xt _ _ | apply Ext.alloc | apply Ext.drewN | apply Ext.drew)) hx_
  have e_w1_u8 := Ext.trans (a := w1) (by repeat (first | assumption | exact Ext.refl _ | exact Ext.of_xt _ _ | apply Ext.alloc | apply Ext.drewN | apply Ext.drew)) hx_
  have HPL := Aside0.mk hp_.at_
  clear hp_ hx_
  go_wp2_with fail
  refine (domSet_c (dOf loopE) 0 0 0 2 Q0 Q1 q0 q1 _ (HT.out.ext e_w_u8) loop_sm loop_wf HPL.out).mono ?_
  (rintro _ v8 ⟨rfl, hx_⟩; have e_w_v8 : Ext w v8 := Ext.trans (by repeat (first | assumption | exact Ext.refl _ | exact Ext.of_xt _ _ | apply Ext.alloc | apply Ext.drewN | apply Ext.drew)) hx_; have e_w1_v8 : Ext w1 v8 := Ext.trans (by repeat (first | assumption | exact Ext.refl _ | exact Ext.of_xt _ _ | apply Ext.alloc | apply Ext.drewN | apply Ext.drew)) hx_; have e_W0_v8 : Ext W0 v8 := Ext.trans (by repeat (first | assumption | exact Ext.refl _ | exact Ext.of_xt _ _ | apply Ext.alloc | apply Ext.drewN | apply Ext.drew)) hx_; clear hx_)
  rw [nm_v8, nm_e8]
  clear HPL
  go_wp2_with fail
  refine (domSet_c (dOf nameE) 0 0 1 0 P0 P1 p0 p1 _ (HT.out.ext (by repeat (first | assumption | exact Ext.refl _ | exact Ext.of_xt _ _ | apply Ext.alloc | apply Ext.drewN | apply Ext.drew))) name_sm name_wf (HP1.out.ext (by repeat (first | assumption | exact Ext.refl _ | exact Ext.of_xt _ _ | apply Ext.alloc | apply Ext.drewN | apply Ext.drew)))).mono ?_
  (rintro _ v9 ⟨rfl, hx_⟩; have e_w_v9 : Ext w v9 := Ext.trans (by repeat (first | assumption | exact Ext.refl _ | exact Ext.of_xt _ _ | apply Ext.alloc | apply Ext.drewN | apply Ext.drew)) hx_; have e_w1_v9 : Ext w1 v9 := Ext.trans (by repeat (first | assumption | exact Ext.refl _ | exact Ext.of_xt _ _ | apply Ext.alloc | apply Ext.drewN | apply Ext.drew)) hx_; have e_W0_v9 : Ext W0 v9 := Ext.trans (by repeat (first | assumption | exact Ext.refl _ | exact Ext.of_xt _ _ | apply Ext.alloc | apply Ext.drewN | apply Ext.drew)) hx_; clear hx_)
  rw [nm_v9, nm_e9]
  go_wp2_with fail
  refine (alive10_c _ (HT.out.ext (by repeat (first | assumption | exact Ext.refl _ | exact Ext.of_xt _ _ | apply Ext.alloc | apply Ext.drewN | apply Ext.drew)))).mono ?_
  (rintro _ w9 ⟨rfl, hx_⟩; have e_w_w9 : Ext w w9 := Ext.trans (by repeat (first | assumption | exact Ext.refl _ | exact Ext.of_xt _ _ | apply Ext.alloc | apply Ext.drewN | apply Ext.drew)) hx_; clear hx_)
  go_wp2
  go_ret
  exact ⟨rfl, e_w_w9⟩
end Go.Proofs.YtjbnabjjbofhjaaDoor.Fes
