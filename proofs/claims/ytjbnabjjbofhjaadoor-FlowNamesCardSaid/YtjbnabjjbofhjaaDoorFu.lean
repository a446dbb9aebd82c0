/- FlowNames: the errors' numbers, and more examples. -/
import Derived.Test.YtjbnabjjbofhjaaDoorFv
set_option linter.unusedVariables false
set_option linter.unusedSimpArgs false
namespace Go.Proofs.YtjbnabjjbofhjaaDoor.Fes
open Go.RowKit Go.Proofs.YtjbnabjjbofhjaaDoorW.PrintWords

def chCells (g : Nat) (y : Int) : Array Value := #[.slice (some ⟨g, 0, none⟩) 1 1, .int .u8 2, .int .i64 0, .int .i64 1, .int .i64 y, .slice none 0 0, .int .u8 1, .int .i64 0, .int .i64 0, .int .i64 0, .slice none 0 0, .int .u8 3, .int .i64 0, .int .i64 0, .int .i64 0]
def chBsY (y : Int) : List Blk := [⟨[chIns], ⟨2, 0, 1, y⟩⟩, ⟨[], ⟨1, 0, 0, 0⟩⟩, ⟨[], ⟨3, 0, 0, 0⟩⟩]
def chPY (y : Int) : Prg := ⟨chTs, [⟨1, chBsY y⟩]⟩
theorem ch_at {W : World} {n t1 t2 t3 t4 : Nat} {i1 : Array Value} {y : Int}
    (h1 : W.heap[n + 1]? = some (.cells i1 t1 (0, 0))) (hi : i1.toList = [.int .u8 1, .int .i64 0, .int .i64 0, .int .i64 0, .int .i64 0, .slice none 0 0, .slice none 0 0])
    (h2 : W.heap[n + 1 + 1]? = some (.cells (chCells (n + 1) y) t2 (0, 0)))
    (h3 : W.heap[n + 1 + 1 + 1]? = some (.cells #[.int .u8 1, .int .i64 0, .int .i64 0, .slice none 0 0, .int .u8 3, .int .i64 0, .int .i64 0, .slice none 0 0] t3 (0, 0)))
    (h4 : W.heap[n + 1 + 1 + 1 + 1]? = some (.cells #[.int .i64 1, .slice (some ⟨n + 1 + 1, 0, none⟩) 3 3] t4 (0, 0))) :
    AtP W (chPY y) (some ⟨n + 1 + 1 + 1, 0, none⟩) (some ⟨n + 1 + 1 + 1 + 1, 0, none⟩) := by
  refine ⟨?_, ?_⟩
  · refine C_chunks h3 (.cons (kTyp_mk _ ⟨1, 0, 0, []⟩ (A3 := none) (c3 := 0) (Nat.le_refl _) (C_nil _ _)) (.cons (kTyp_mk _ ⟨3, 0, 0, []⟩ (A3 := none) (c3 := 0) (Nat.le_refl _) (C_nil _ _)) .nil)) (by simp [chPY, chTs])
  · refine C_chunks h4 (.cons (kFc_mk _ ⟨1, chBsY y⟩ (A1 := some ⟨n + 1 + 1, 0, none⟩) (c1 := 3) (by simp [chBsY]) ?_) .nil) (by simp [chPY])
    exact C_chunks h2 (.cons (kBlk_mk _ ⟨[chIns], ⟨2, 0, 1, y⟩⟩ (A0 := some ⟨n + 1, 0, none⟩) (c0 := 1) (Nat.le_refl _)
      (C_chunks h1 (by rw [hi]; exact .cons (kIns_mk _ chIns (A5 := none) (c5 := 0) (Nat.le_refl _) (C_nil _ _) (A6 := none) (c6 := 0) (Nat.le_refl _) (C_nil _ _)) .nil) (by simp)))
      (.cons (kBlk_mk _ ⟨[], ⟨1, 0, 0, 0⟩⟩ (A0 := none) (c0 := 0) (Nat.le_refl _) (C_nil _ _)) (.cons (kBlk_mk _ ⟨[], ⟨3, 0, 0, 0⟩⟩ (A0 := none) (c0 := 0) (Nat.le_refl _) (C_nil _ _)) .nil))) (by simp [chBsY])
/-- The chapter's program, where its parts lie. -/
structure ChLies (W : World) (n : Nat) (y : Int) : Prop where
  lies : ∃ (t1 t2 t3 t4 : Nat) (i1 : Array Value), i1.toList = [.int .u8 1, .int .i64 0, .int .i64 0, .int .i64 0, .int .i64 0, .slice none 0 0, .slice none 0 0] ∧ W.heap[n + 1]? = some (.cells i1 t1 (0, 0)) ∧ W.heap[n + 1 + 1]? = some (.cells (chCells (n + 1) y) t2 (0, 0)) ∧
    W.heap[n + 1 + 1 + 1]? = some (.cells #[.int .u8 1, .int .i64 0, .int .i64 0, .slice none 0 0, .int .u8 3, .int .i64 0, .int .i64 0, .slice none 0 0] t3 (0, 0)) ∧
    W.heap[n + 1 + 1 + 1 + 1]? = some (.cells #[.int .i64 1, .slice (some ⟨n + 1 + 1, 0, none⟩) 3 3] t4 (0, 0))
theorem ChLies.at_ {W : World} {n : Nat} {y : Int} (h : ChLies W n y) : AtP W (chPY y) (some ⟨n + 1 + 1 + 1, 0, none⟩) (some ⟨n + 1 + 1 + 1 + 1, 0, none⟩) := by
  obtain ⟨t1, t2, t3, t4, i1, hi, h1, h2, h3, h4⟩ := h.lies
  exact ch_at h1 hi h2 h3 h4
theorem ChLies.ext {W W' : World} {n : Nat} {y : Int} (h : ChLies W n y) (hx : Ext W W') : ChLies W' n y := by
  obtain ⟨t1, t2, t3, t4, i1, hi, h1, h2, h3, h4⟩ := h.lies
  exact ⟨t1, t2, t3, t4, i1, hi, hx.blk h1, hx.blk h2, hx.blk h3, hx.blk h4⟩
theorem ChLies.set {W : World} {n : Nat} {y z : Int} (h : ChLies W n y) : ChLies (W.setCell ⟨n + 1 + 1, 4, none⟩ (.int .i64 z)) n z := by
  obtain ⟨t1, t2, t3, t4, i1, hi, h1, h2, h3, h4⟩ := h.lies
  exact ⟨t1, t2, t3, t4, i1, hi, blk_far h1 (by dsimp only; omega) _, blk_put h2 4 _ (by simp [chCells]), blk_far h3 (by dsimp only; omega) _, blk_far h4 (by dsimp only; omega) _⟩
set_option maxHeartbeats 2000000 in
theorem chapter9_x (w : World) :
    Calls Tryd.prog 29 #[] w fun e w' => e = .returned (.agg #[.slice (some ⟨w.heap.size + 1 + 1 + 1, 0, none⟩) 2 2, .slice (some ⟨w.heap.size + 1 + 1 + 1 + 1, 0, none⟩) 1 1]) ∧ ChLies w' w.heap.size 2 ∧ Ext w w' := by
  go_enter Tryd.func29, Tryd.ntmps29
  go_wp2
  refine bodyPost_ret (v := .agg #[.slice (some ⟨w.heap.size + 1 + 1 + 1, 0, none⟩) 2 2, .slice (some ⟨w.heap.size + 1 + 1 + 1 + 1, 0, none⟩) 1 1]) (by simp [results, Tryd.results29, go_sem]) rfl ⟨rfl, ⟨?_⟩, (by repeat (first | assumption | exact Ext.refl _ | exact Ext.of_xt _ _ | apply Ext.alloc | apply Ext.drewN | apply Ext.drew))⟩
  exact ⟨_, _, _, _, _, rfl, (heap5 w _ _ _ _ _).2.1, (heap5 w _ _ _ _ _).2.2.1, (heap5 w _ _ _ _ _).2.2.2.1, (heap5 w _ _ _ _ _).2.2.2.2⟩

def noP : Prg := ⟨[], []⟩
theorem chY_sm : SmP (chPY 1) := ⟨by decide, by decide, by decide, by decide, by decide, by decide⟩
theorem chY_wf : WfP (chPY 1) := by unfold WfP; decide
theorem no_sm : SmP noP := ⟨by decide, by decide, by decide, by decide, by decide, by decide⟩
theorem no_wf : WfP noP := by unfold WfP; decide
theorem no_at (W : World) : AtP W noP none none := ⟨C_nil _ _, C_nil _ _⟩
theorem y_e00 : flE (chPY 1) 0 0 = 0 := by decide +kernel
theorem y_e02 : flE (chPY 1) 0 2 = 0 := by decide +kernel
theorem y_e03 : flE (chPY 1) 0 3 = 2 := by decide +kernel
theorem y_e10 : flE (chPY 1) 1 0 = 2 := by decide +kernel
theorem y_no : flE noP 0 0 = 60 := by decide +kernel
theorem y_n : nxP (chPY 1) 0 0 = [1] := by decide +kernel
theorem y_n2 : nxP (chPY 1) 0 2 = [] := by decide +kernel
theorem y_r2 : rdP (chPY 1) 0 2 = false := by decide +kernel
theorem y_gone : gone (toN (fnP (chPY 1) 0).blocks) (fnP (chPY 1) 0).blocks.length [0] = [1, 0] := by decide +kernel
theorem y_re : reP (chPY 1) 0 = [0, 1] := by
  unfold reP
  rw [if_pos y_e00, y_gone]
  simp [srt, castL, List.mergeSort, List.MergeSort.Internal.splitInTwo, List.merge]

set_option maxRecDepth 100000 in
set_option maxHeartbeats 4000000 in
theorem flowNames_c (w : World) (hT : Tab w) : Calls Tryd.prog 5 #[] w fun e w' => e = .returned (.bool true) ∧ Ext w w' := by
  have HT := Aside0.mk hT
  clear hT
  go_enter Tryd.func5, Tryd.ntmps5
  go_wp2_with fail
  refine (chapter9_x _).mono ?_
  rintro _ w1 ⟨rfl, hl1, hx1⟩
  have HL1 := Aside0.mk hl1
  have hsz1 := hx1.size
  obtain ⟨t1, t2, t3, t4, i1, hi1, b1, b2, b3, b4⟩ := hl1.lies
  have c4 : ∀ W, Ext w1 W → W.cell? ⟨w.heap.size + 1 + 1 + 1 + 1, 1, none⟩ = some (.slice (some ⟨w.heap.size + 1 + 1, 0, none⟩) 3 3) := stays (blk_cell b4 1)
  have c2 : ∀ W, Ext w1 W → W.cell? ⟨w.heap.size + 1 + 1, 4, none⟩ = some (.int .i64 2) := stays (blk_cell b2 4)
  have z2 : ∀ W, Ext w1 W → W.frozen? ⟨w.heap.size + 1 + 1, 4, none⟩ = false := fun W hW => by have := hW.blk b2; simp [World.frozen?, this]
  have hb2 := blk_lt b2
  clear hl1 hi1 b1 b2 b3 b4
  go_upto_region 2 with (fail)
  have hbx : (w1.alloc (.cells #[.slice (some ⟨w.heap.size + 1 + 1 + 1, 0, none⟩) 2 2, .slice (some ⟨w.heap.size + 1 + 1 + 1 + 1, 0, none⟩) 1 1] 25)).heap[w1.heap.size]? = some (.cells #[.slice (some ⟨w.heap.size + 1 + 1 + 1, 0, none⟩) 2 2, .slice (some ⟨w.heap.size + 1 + 1 + 1 + 1, 0, none⟩) 1 1] 25 (0, 0)) := heap_new _ _
  (have e_w_W0 : Ext w (w1.alloc (.cells #[.slice (some ⟨w.heap.size + 1 + 1 + 1, 0, none⟩) 2 2, .slice (some ⟨w.heap.size + 1 + 1 + 1 + 1, 0, none⟩) 1 1] 25)) := (by repeat (first | assumption | exact Ext.refl _ | exact Ext.of_xt _ _ | apply Ext.alloc | apply Ext.drewN | apply Ext.drew)); have e_w1_W0 : Ext w1 (w1.alloc (.cells #[.slice (some ⟨w.heap.size + 1 + 1 + 1, 0, none⟩) 2 2, .slice (some ⟨w.heap.size + 1 + 1 + 1 + 1, 0, none⟩) 1 1] 25)) := (by repeat (first | assumption | exact Ext.refl _ | exact Ext.of_xt _ _ | apply Ext.alloc | apply Ext.drewN | apply Ext.drew)); generalize w1.alloc (.cells #[.slice (some ⟨w.heap.size + 1 + 1 + 1, 0, none⟩) 2 2, .slice (some ⟨w.heap.size + 1 + 1 + 1 + 1, 0, none⟩) 1 1] 25) = W0 at e_w_W0 e_w1_W0 hbx ⊢)
  have HL0 := Aside0.mk (HL1.out.ext e_w1_W0)
  have k4 := c4 W0 e_w1_W0
  have k2 := c2 W0 e_w1_W0
  have z20 := z2 W0 e_w1_W0
  have p1 : W0.cell? ⟨w1.heap.size, 1, none⟩ = some (.slice (some ⟨w.heap.size + 1 + 1 + 1 + 1, 0, none⟩) 1 1) := blk_cell hbx 1
  have HBX := Aside0.mk hbx
  clear hbx c4 c2 z2 HL1
  go_upto_region 3 with (fail)
  have HL2 := Aside0.mk (HL0.out.set (z := 1))
  have e_w_W2 : Ext w (W0.setCell ⟨w.heap.size + 1 + 1, 4, none⟩ (.int .i64 1)) := Ext.set e_w_W0 (by dsimp only; omega) _
  have hbx2 := blk_far HBX.out (p := ⟨w.heap.size + 1 + 1, 4, none⟩) (by dsimp only; omega) (.int .i64 1)
  clear k4 k2 z20 p1 HBX HL0 e_w_W0 e_w1_W0
  generalize W0.setCell ⟨w.heap.size + 1 + 1, 4, none⟩ (.int .i64 1) = W2 at *
  have q0 : ∀ W, Ext W2 W → W.cell? ⟨w1.heap.size, 0, none⟩ = some (.slice (some ⟨w.heap.size + 1 + 1 + 1, 0, none⟩) 2 2) := stays (blk_cell hbx2 0)
  have q1 : ∀ W, Ext W2 W → W.cell? ⟨w1.heap.size, 1, none⟩ = some (.slice (some ⟨w.heap.size + 1 + 1 + 1 + 1, 0, none⟩) 1 1) := stays (blk_cell hbx2 1)
  have HA : Aside0 (∀ W, Ext W2 W → AtP W (chPY 1) (some ⟨w.heap.size + 1 + 1 + 1, 0, none⟩) (some ⟨w.heap.size + 1 + 1 + 1 + 1, 0, none⟩)) := ⟨fun W h => (HL2.out.ext h).at_⟩
  clear hbx2 HL2 hsz1 hb2 hx1
  generalize w.heap.size + 1 + 1 + 1 + 1 = g4 at *
  generalize w.heap.size + 1 + 1 + 1 = g3 at *
  generalize w1.heap.size = bx at *
  have e_W2_W2 : Ext W2 W2 := Ext.refl _
  have HN : Aside0 (∀ (W : World) (b : Int), Ext W2 W → Calls Tryd.prog 19 #[.agg #[.slice (some ⟨g3, 0, none⟩) 2 2, .slice (some ⟨g4, 0, none⟩) 1 1], .int .i64 0, .int .i64 b] W fun e w' => ∃ v, e = .returned (.tuple #[v, .int .i64 (flE (chPY 1) 0 b)]) ∧ OwnI W w' v (nxP (chPY 1) 0 b) ∧ Ext W w') :=
    ⟨fun W b h => flNext_c W (chPY 1) 0 b (some ⟨g3, 0, none⟩) (some ⟨g4, 0, none⟩) 2 1 (HT.out.ext (e_w_W2.trans h)) chY_sm chY_wf (HA.out W h)⟩
  have HR : Aside0 (∀ (W : World), Ext W2 W → Calls Tryd.prog 30 #[.agg #[.slice (some ⟨g3, 0, none⟩) 2 2, .slice (some ⟨g4, 0, none⟩) 1 1], .int .i64 0] W fun e w' => ∃ v, e = .returned (.tuple #[v, .int .i64 (flE (chPY 1) 0 0)]) ∧ OwnI W w' v (reP (chPY 1) 0) ∧ Ext W w') :=
    ⟨fun W h => flReach_c (chPY 1) 0 (some ⟨g3, 0, none⟩) (some ⟨g4, 0, none⟩) 2 1 W (HT.out.ext (e_w_W2.trans h)) chY_sm chY_wf (HA.out W h)⟩
  have HO : Aside0 (∀ (W : World), Ext W2 W → Calls Tryd.prog 31 #[.agg #[.slice (some ⟨g3, 0, none⟩) 2 2, .slice (some ⟨g4, 0, none⟩) 1 1], .int .i64 1] W fun e w' => ∃ v, e = .returned (.tuple #[v, .int .i64 (flE (chPY 1) 1 0)]) ∧ OwnI W w' v (orP (chPY 1) 1) ∧ Ext W w') :=
    ⟨fun W h => flOrder_c (chPY 1) 1 (some ⟨g3, 0, none⟩) (some ⟨g4, 0, none⟩) 2 1 W (HT.out.ext (e_w_W2.trans h)) chY_sm chY_wf (HA.out W h)⟩
  have HD : Aside0 (∀ (W : World), Ext W2 W → Calls Tryd.prog 23 #[.agg #[.slice (some ⟨g3, 0, none⟩) 2 2, .slice (some ⟨g4, 0, none⟩) 1 1], .int .i64 0, .int .i64 2] W fun e w' => e = .returned (.tuple #[.bool (rdP (chPY 1) 0 2), .int .i64 (flE (chPY 1) 0 2)]) ∧ Ext W w') :=
    ⟨fun W h => flRound_c (chPY 1) 0 2 (some ⟨g3, 0, none⟩) (some ⟨g4, 0, none⟩) 2 1 W (HT.out.ext (e_w_W2.trans h)) chY_sm chY_wf (HA.out W h)⟩
  have HE : Aside0 (∀ (W : World), Ext w W → Calls Tryd.prog 30 #[.agg #[.slice none 0 0, .slice none 0 0], .int .i64 0] W fun e w' => ∃ v, e = .returned (.tuple #[v, .int .i64 (flE noP 0 0)]) ∧ OwnI W w' v (reP noP 0) ∧ Ext W w') :=
    ⟨fun W h => flReach_c noP 0 none none 0 0 W (HT.out.ext h) no_sm no_wf (no_at W)⟩
  clear HA
  go_wp2_with fail
  refine (HN.out _ 0 e_W2_W2).mono ?_
  rintro _ w3 ⟨v3, rfl, hv3, e_W2_w3⟩
  rw [y_n] at hv3
  rw [y_e00]
  have HV3 := Aside0.mk hv3
  obtain ⟨A3, N3, c3, rfl⟩ := hv3.isSlice
  clear hv3
  go_wp2_with fail
  refine (HR.out _ e_W2_w3).mono ?_
  rintro _ w4 ⟨v4, rfl, hv4, hx4⟩
  have e_W2_w4 := e_W2_w3.trans hx4
  rw [y_re] at hv4
  rw [y_e00]
  have HV4 := Aside0.mk hv4
  have HX4 := Aside0.mk hx4
  obtain ⟨A4, N4, c4, rfl⟩ := hv4.isSlice
  clear hv4 hx4
  go_wp2_with fail
  refine (HD.out _ e_W2_w4).mono ?_
  rintro _ w5 ⟨rfl, hx5⟩
  have e_W2_w5 := e_W2_w4.trans hx5
  have HX5 := Aside0.mk hx5
  rw [y_r2, y_e02]
  clear hx5
  go_wp2_with fail
  refine (HN.out _ 2 e_W2_w5).mono ?_
  rintro _ w6 ⟨v6, rfl, hv6, hx6⟩
  have e_W2_w6 := e_W2_w5.trans hx6
  have HX6 := Aside0.mk hx6
  rw [y_n2] at hv6
  rw [y_e02]
  obtain ⟨A6, c6, rfl, _, _⟩ := hv6.reads
  clear hx6 hv6
  go_wp2_with fail
  refine (HN.out _ 3 e_W2_w6).mono ?_
  rintro _ w7 ⟨v7, rfl, hv7, hx7⟩
  have e_W2_w7 := e_W2_w6.trans hx7
  have HX7 := Aside0.mk hx7
  rw [y_e03]
  obtain ⟨A7, N7, c7, rfl⟩ := hv7.isSlice
  clear hx7 hv7
  go_wp2_with fail
  refine (HO.out _ e_W2_w7).mono ?_
  rintro _ w8 ⟨v8, rfl, hv8, hx8⟩
  have e_W2_w8 := e_W2_w7.trans hx8
  have HX8 := Aside0.mk hx8
  rw [y_e10]
  obtain ⟨A8, N8, c8, rfl⟩ := hv8.isSlice
  clear hx8 hv8
  go_wp2_with fail
  refine (HE.out _ (e_w_W2.trans e_W2_w8)).mono ?_
  rintro _ w9 ⟨v9, rfl, hv9, hx9⟩
  have e_W2_w9 := e_W2_w8.trans hx9
  have HX9 := Aside0.mk hx9
  rw [y_no]
  obtain ⟨A9, N9, c9, rfl⟩ := hv9.isSlice
  clear hx9 hv9
  have e_w_w9 := e_w_W2.trans e_W2_w9
  have HV4' := Aside0.mk (HV4.out.ext (HX5.out.trans (HX6.out.trans (HX7.out.trans (HX8.out.trans HX9.out)))))
  have HV3' := Aside0.mk (HV3.out.ext (HX4.out.trans (HX5.out.trans (HX6.out.trans (HX7.out.trans (HX8.out.trans HX9.out))))))
  clear HV3 HV4 HX4 HX5 HX6 HX7 HX8 HX9 HN HR HO HD HE
  go_wp2_with fail
  refine (alive9_c _ (HT.out.ext e_w_w9)).mono ?_
  (rintro _ w10 ⟨rfl, hx_⟩; have e_w_w10 : Ext w w10 := Ext.trans (by repeat (first | assumption | exact Ext.refl _ | exact Ext.of_xt _ _ | apply Ext.alloc | apply Ext.drewN | apply Ext.drew)) hx_; have e_w9_w10 : Ext w9 w10 := Ext.trans (by repeat (first | assumption | exact Ext.refl _ | exact Ext.of_xt _ _ | apply Ext.alloc | apply Ext.drewN | apply Ext.drew)) hx_; clear hx_)
  obtain ⟨B3, d3, he3, _, hC3⟩ := (HV3'.out.ext e_w9_w10).reads
  obtain ⟨B4, d4, he4, _, hC4⟩ := (HV4'.out.ext e_w9_w10).reads
  have HC3 := Aside0.mk hC3
  have HC4 := Aside0.mk hC4
  simp only [Value.slice.injEq] at he3 he4
  obtain ⟨rfl, rfl, rfl⟩ := he3
  obtain ⟨rfl, rfl, rfl⟩ := he4
  clear hC3 hC4 HV3' HV4'
  go_wp2_with fail
  refine (smI_c [1] [1] _ (some ⟨w10.heap.size, 0, none⟩) _ 1 _ (Ext.C (by repeat (first | assumption | exact Ext.refl _ | exact Ext.of_xt _ _ | apply Ext.alloc | apply Ext.drewN | apply Ext.drew)) HC3.out) (C_litI [1] rfl (by simp) _)).mono ?_
  (rintro _ w11 ⟨rfl, hx_⟩; have e_w_w11 : Ext w w11 := Ext.trans (by repeat (first | assumption | exact Ext.refl _ | exact Ext.of_xt _ _ | apply Ext.alloc | apply Ext.drewN | apply Ext.drew)) hx_; have e_w10_w11 : Ext w10 w11 := Ext.trans (by repeat (first | assumption | exact Ext.refl _ | exact Ext.of_xt _ _ | apply Ext.alloc | apply Ext.drewN | apply Ext.drew)) hx_; clear hx_)
  go_wp2_with fail
  refine (smI_c [0, 1] [0, 1] _ (some ⟨w11.heap.size, 0, none⟩) _ 2 _ (Ext.C (by repeat (first | assumption | exact Ext.refl _ | exact Ext.of_xt _ _ | apply Ext.alloc | apply Ext.drewN | apply Ext.drew)) HC4.out) (C_litI [0, 1] rfl (by simp) _)).mono ?_
  (rintro _ w12 ⟨rfl, hx_⟩; have e_w_w12 : Ext w w12 := Ext.trans (by repeat (first | assumption | exact Ext.refl _ | exact Ext.of_xt _ _ | apply Ext.alloc | apply Ext.drewN | apply Ext.drew)) hx_; have e_w10_w12 : Ext w10 w12 := Ext.trans (by repeat (first | assumption | exact Ext.refl _ | exact Ext.of_xt _ _ | apply Ext.alloc | apply Ext.drewN | apply Ext.drew)) hx_; have e_w11_w12 : Ext w11 w12 := Ext.trans (by repeat (first | assumption | exact Ext.refl _ | exact Ext.of_xt _ _ | apply Ext.alloc | apply Ext.drewN | apply Ext.drew)) hx_; clear hx_)
  go_wp2
  go_ret
  exact ⟨rfl, e_w_w12⟩
end Go.Proofs.YtjbnabjjbofhjaaDoor.Fes
