/- The statements of layer 10: the chapter's programs. -/
import Derived.Test.YtjbnabjjbofhjaaDoorDg1
set_option linter.unusedVariables false
set_option linter.unusedSimpArgs false
namespace Go.Proofs.YtjbnabjjbofhjaaDoor.Fes
open Go.RowKit Go.Proofs.YtjbnabjjbofhjaaDoorW.PrintWords

def forkE : List En := [⟨2, 0, 1, 2⟩, ⟨1, 0, 3, 0⟩, ⟨1, 0, 3, 0⟩, ⟨3, 0, 0, 0⟩]
def loopE : List En := [⟨1, 0, 1, 0⟩, ⟨2, 0, 2, 3⟩, ⟨1, 0, 1, 0⟩, ⟨3, 0, 0, 0⟩]
theorem fork_sm : SmP (dOf forkE) := ⟨by decide, by decide, by decide, by decide, by decide, by decide⟩
theorem fork_wf : WfP (dOf forkE) := by unfold WfP; decide
theorem loop_sm : SmP (dOf loopE) := ⟨by decide, by decide, by decide, by decide, by decide, by decide⟩
theorem loop_wf : WfP (dOf loopE) := by unfold WfP; decide
theorem fork_f : flE (dOf forkE) 0 1 = 0 := by decide +kernel
theorem fork_1 : domE (dOf forkE) 0 1 = 0 := by decide +kernel
theorem fork_2 : domE (dOf forkE) 0 2 = 0 := by decide +kernel
theorem fork_3 : domE (dOf forkE) 0 3 = 0 := by decide +kernel
theorem fork_r : rlB (dOf forkE) 0 1 3 = false := by decide +kernel
theorem fork_n1 : dnP (dOf forkE) 0 1 = 0 := by decide +kernel
theorem fork_n2 : dnP (dOf forkE) 0 2 = 0 := by decide +kernel
theorem fork_n3 : dnP (dOf forkE) 0 3 = 0 := by decide +kernel
theorem loop_1 : domE (dOf loopE) 0 1 = 0 := by decide +kernel
theorem loop_2 : domE (dOf loopE) 0 2 = 0 := by decide +kernel
theorem loop_3 : domE (dOf loopE) 0 3 = 0 := by decide +kernel
theorem loop_n1 : dnP (dOf loopE) 0 1 = 0 := by decide +kernel
theorem loop_n2 : dnP (dOf loopE) 0 2 = 1 := by decide +kernel
theorem loop_n3 : dnP (dOf loopE) 0 3 = 1 := by decide +kernel

set_option maxRecDepth 100000 in
set_option maxHeartbeats 2000000 in
theorem fork10_c (w : World) :
    Calls Tryd.prog 67 #[] w fun e w' => ∃ A0 A1 c0 c1, e = .returned (vPrg (dOf forkE) A0 c0 A1 c1) ∧ OwnP w w' (dOf forkE) A0 c0 A1 c1 ∧ Ext w w' := by
  go_enter Tryd.func67, Tryd.ntmps67
  go_upto_region 1 with (fail)
  have hb0 := heap_new w (.cells #[.slice none 0 0, .slice none 0 0] 25)
  (have e_w_W0 : Ext w (w.alloc (.cells #[.slice none 0 0, .slice none 0 0] 25)) := (by repeat (first | assumption | exact Ext.refl _ | exact Ext.of_xt _ _ | apply Ext.alloc | apply Ext.drewN | apply Ext.drew)); generalize w.alloc (.cells #[.slice none 0 0, .slice none 0 0] 25) = W0 at e_w_W0 hb0 ⊢)
  have HC := Aside0.mk (C_chunks (d := kEn) (xs := forkE) (heap_new W0 (.cells #[.int .u8 2, .int .i64 0, .int .i64 1, .int .i64 2, .int .u8 1, .int .i64 0, .int .i64 3, .int .i64 0, .int .u8 1, .int .i64 0, .int .i64 3, .int .i64 0, .int .u8 3, .int .i64 0, .int .i64 0, .int .i64 0] 45)) (.cons (kEn_mk _ ⟨2, 0, 1, 2⟩) (.cons (kEn_mk _ ⟨1, 0, 3, 0⟩) (.cons (kEn_mk _ ⟨1, 0, 3, 0⟩) (.cons (kEn_mk _ ⟨3, 0, 0, 0⟩) .nil)))) (by decide))
  go_wp2_with fail
  refine (of10_c forkE (some ⟨W0.heap.size, 0, none⟩) 4 _ (by decide) HC.out).mono ?_
  rintro _ w1 ⟨P0, P1, p0, p1, rfl, hp1, hx_⟩
  have e_W0_w1 : Ext W0 w1 := Ext.trans (Ext.alloc (Ext.refl _) _) hx_
  have hb1 := e_W0_w1.blk hb0
  have k0 := blk_cell hb1 0
  have k1 := blk_cell hb1 1
  have f0 := blk_frozen hb1 0
  have f1 := blk_frozen hb1 1
  have HB1 := Aside0.mk hb1
  have HP1 := Aside0.mk (hp1.lower (show Ext W0 _ from Ext.alloc (Ext.refl W0) _))
  have hgl : w.heap.size < W0.heap.size := blk_lt hb0
  have HGL := Aside0.mk hgl
  have e_w_w1 := e_w_W0.trans e_W0_w1
  clear hb0 hb1 hp1 hx_ HC hgl
  unfold vPrg
  go_wp2_with fail
  have hb2 := blk_set (blk_set HB1.out 0 (.slice P0 2 p0)) 1 (.slice P1 1 p1)
  have e_w_w2 := Ext.set (Ext.set e_w_w1 (p := ⟨w.heap.size, 0, none⟩) (Nat.le_refl _) (.slice P0 2 p0)) (p := ⟨w.heap.size, 1, none⟩) (Nat.le_refl _) (.slice P1 1 p1)
  have hP2 := ((HP1.out.elder (a := ⟨w.heap.size, 0, none⟩) HGL.out (.slice P0 2 p0)).elder (a := ⟨w.heap.size, 1, none⟩) HGL.out (.slice P1 1 p1)).lower e_w_W0
  refine bodyPost_ret (v := vPrg _ P0 p0 P1 p1) ?_ rfl ⟨_, _, _, _, rfl, hP2, e_w_w2⟩
  exact results_cell_row (d := _) rfl _ _ w.heap.size _ #[.slice P0 2 p0, .slice P1 1 p1] _ (by rfl) hb2 Tryd.underlying25 rfl (by kernel_rfl)

set_option maxRecDepth 100000 in
set_option maxHeartbeats 2000000 in
theorem loop10_c (w : World) :
    Calls Tryd.prog 39 #[] w fun e w' => ∃ A0 A1 c0 c1, e = .returned (vPrg (dOf loopE) A0 c0 A1 c1) ∧ OwnP w w' (dOf loopE) A0 c0 A1 c1 ∧ Ext w w' := by
  go_enter Tryd.func39, Tryd.ntmps39
  go_upto_region 1 with (fail)
  have hb0 := heap_new w (.cells #[.slice none 0 0, .slice none 0 0] 25)
  (have e_w_W0 : Ext w (w.alloc (.cells #[.slice none 0 0, .slice none 0 0] 25)) := (by repeat (first | assumption | exact Ext.refl _ | exact Ext.of_xt _ _ | apply Ext.alloc | apply Ext.drewN | apply Ext.drew)); generalize w.alloc (.cells #[.slice none 0 0, .slice none 0 0] 25) = W0 at e_w_W0 hb0 ⊢)
  have HC := Aside0.mk (C_chunks (d := kEn) (xs := loopE) (heap_new W0 (.cells #[.int .u8 1, .int .i64 0, .int .i64 1, .int .i64 0, .int .u8 2, .int .i64 0, .int .i64 2, .int .i64 3, .int .u8 1, .int .i64 0, .int .i64 1, .int .i64 0, .int .u8 3, .int .i64 0, .int .i64 0, .int .i64 0] 45)) (.cons (kEn_mk _ ⟨1, 0, 1, 0⟩) (.cons (kEn_mk _ ⟨2, 0, 2, 3⟩) (.cons (kEn_mk _ ⟨1, 0, 1, 0⟩) (.cons (kEn_mk _ ⟨3, 0, 0, 0⟩) .nil)))) (by decide))
  go_wp2_with fail
  refine (of10_c loopE (some ⟨W0.heap.size, 0, none⟩) 4 _ (by decide) HC.out).mono ?_
  rintro _ w1 ⟨P0, P1, p0, p1, rfl, hp1, hx_⟩
  have e_W0_w1 : Ext W0 w1 := Ext.trans (Ext.alloc (Ext.refl _) _) hx_
  have hb1 := e_W0_w1.blk hb0
  have k0 := blk_cell hb1 0
  have k1 := blk_cell hb1 1
  have f0 := blk_frozen hb1 0
  have f1 := blk_frozen hb1 1
  have HB1 := Aside0.mk hb1
  have HP1 := Aside0.mk (hp1.lower (show Ext W0 _ from Ext.alloc (Ext.refl W0) _))
  have hgl : w.heap.size < W0.heap.size := blk_lt hb0
  have HGL := Aside0.mk hgl
  have e_w_w1 := e_w_W0.trans e_W0_w1
  clear hb0 hb1 hp1 hx_ HC hgl
  unfold vPrg
  go_wp2_with fail
  have hb2 := blk_set (blk_set HB1.out 0 (.slice P0 2 p0)) 1 (.slice P1 1 p1)
  have e_w_w2 := Ext.set (Ext.set e_w_w1 (p := ⟨w.heap.size, 0, none⟩) (Nat.le_refl _) (.slice P0 2 p0)) (p := ⟨w.heap.size, 1, none⟩) (Nat.le_refl _) (.slice P1 1 p1)
  have hP2 := ((HP1.out.elder (a := ⟨w.heap.size, 0, none⟩) HGL.out (.slice P0 2 p0)).elder (a := ⟨w.heap.size, 1, none⟩) HGL.out (.slice P1 1 p1)).lower e_w_W0
  refine bodyPost_ret (v := vPrg _ P0 p0 P1 p1) ?_ rfl ⟨_, _, _, _, rfl, hP2, e_w_w2⟩
  exact results_cell_row (d := _) rfl _ _ w.heap.size _ #[.slice P0 2 p0, .slice P1 1 p1] _ (by rfl) hb2 Tryd.underlying25 rfl (by kernel_rfl)
end Go.Proofs.YtjbnabjjbofhjaaDoor.Fes
