/- The statements of layer 10: the chapter's examples are as they should. -/
import Derived.Test.YtjbnabjjbofhjaaDoorDg2
set_option linter.unusedVariables false
set_option linter.unusedSimpArgs false
namespace Go.Proofs.YtjbnabjjbofhjaaDoor.Fes
open Go.RowKit Go.Proofs.YtjbnabjjbofhjaaDoorW.PrintWords

set_option maxHeartbeats 2000000 in
theorem nexts10_c (p : Prg) (a b c : Int) (A0 A1 : Option Addr) (c0 c1 : Nat) (w : World) (h1 : domE p 0 1 = 0) (h2 : domE p 0 2 = 0) (h3 : domE p 0 3 = 0) (n1 : dnP p 0 1 = a) (n2 : dnP p 0 2 = b) (n3 : dnP p 0 3 = c) (hT : Tab w) (hs : SmP p) (hw : WfP p) (hp : AtP w p A0 A1) :
    Calls Tryd.prog 68 #[vPrg p A0 c0 A1 c1, .int .i64 a, .int .i64 b, .int .i64 c] w fun e w' => e = .returned (.bool true) ∧ Ext w w' := by
  have HT := Aside0.mk hT
  have HP := Aside0.mk hp
  have HS := Aside0.mk hs
  have HW := Aside0.mk hw
  have H1 := Aside0.mk h1
  have H2 := Aside0.mk h2
  have H3 := Aside0.mk h3
  have N1 := Aside0.mk n1
  have N2 := Aside0.mk n2
  have N3 := Aside0.mk n3
  clear hT hp hs hw h1 h2 h3 n1 n2 n3
  unfold vPrg
  go_enter Tryd.func68, Tryd.ntmps68
  go_upto_region 1 with (fail)
  (have e_w_W0 : Ext w (w.alloc (.cells #[.slice A0 p.types.length c0, .slice A1 p.funcs.length c1] 25)) := (by repeat (first | assumption | exact Ext.refl _ | exact Ext.of_xt _ _ | apply Ext.alloc | apply Ext.drewN | apply Ext.drew)); have b_W0_0_0 := stays (w := w.alloc (.cells #[.slice A0 p.types.length c0, .slice A1 p.funcs.length c1] 25)) (a := ⟨w.heap.size, 0, none⟩) (by first | (go_simp; rfl) | rfl); have b_W0_0_1 := stays (w := w.alloc (.cells #[.slice A0 p.types.length c0, .slice A1 p.funcs.length c1] 25)) (a := ⟨w.heap.size, 1, none⟩) (by first | (go_simp; rfl) | rfl); generalize w.alloc (.cells #[.slice A0 p.types.length c0, .slice A1 p.funcs.length c1] 25) = W0 at e_w_W0 b_W0_0_0 b_W0_0_1 ⊢)
  go_wp2_with fail
  refine (domNext_c p 0 1 A0 A1 c0 c1 _ (HT.out.ext (by repeat (first | assumption | exact Ext.refl _ | exact Ext.of_xt _ _ | apply Ext.alloc | apply Ext.drewN | apply Ext.drew))) HS.out HW.out (HP.out.ext (by repeat (first | assumption | exact Ext.refl _ | exact Ext.of_xt _ _ | apply Ext.alloc | apply Ext.drewN | apply Ext.drew)))).mono ?_
  (rintro _ w1 ⟨rfl, hx_⟩; have e_w_w1 : Ext w w1 := Ext.trans (by repeat (first | assumption | exact Ext.refl _ | exact Ext.of_xt _ _ | apply Ext.alloc | apply Ext.drewN | apply Ext.drew)) hx_; have e_W0_w1 : Ext W0 w1 := Ext.trans (by repeat (first | assumption | exact Ext.refl _ | exact Ext.of_xt _ _ | apply Ext.alloc | apply Ext.drewN | apply Ext.drew)) hx_; clear hx_)
  rw [H1.out, N1.out]
  go_wp2_with fail
  refine (domNext_c p 0 2 A0 A1 c0 c1 _ (HT.out.ext (by repeat (first | assumption | exact Ext.refl _ | exact Ext.of_xt _ _ | apply Ext.alloc | apply Ext.drewN | apply Ext.drew))) HS.out HW.out (HP.out.ext (by repeat (first | assumption | exact Ext.refl _ | exact Ext.of_xt _ _ | apply Ext.alloc | apply Ext.drewN | apply Ext.drew)))).mono ?_
  (rintro _ w2 ⟨rfl, hx_⟩; have e_w_w2 : Ext w w2 := Ext.trans (by repeat (first | assumption | exact Ext.refl _ | exact Ext.of_xt _ _ | apply Ext.alloc | apply Ext.drewN | apply Ext.drew)) hx_; have e_W0_w2 : Ext W0 w2 := Ext.trans (by repeat (first | assumption | exact Ext.refl _ | exact Ext.of_xt _ _ | apply Ext.alloc | apply Ext.drewN | apply Ext.drew)) hx_; clear hx_)
  rw [H2.out, N2.out]
  go_wp2_with fail
  refine (domNext_c p 0 3 A0 A1 c0 c1 _ (HT.out.ext (by repeat (first | assumption | exact Ext.refl _ | exact Ext.of_xt _ _ | apply Ext.alloc | apply Ext.drewN | apply Ext.drew))) HS.out HW.out (HP.out.ext (by repeat (first | assumption | exact Ext.refl _ | exact Ext.of_xt _ _ | apply Ext.alloc | apply Ext.drewN | apply Ext.drew)))).mono ?_
  (rintro _ w3 ⟨rfl, hx_⟩; have e_w_w3 : Ext w w3 := Ext.trans (by repeat (first | assumption | exact Ext.refl _ | exact Ext.of_xt _ _ | apply Ext.alloc | apply Ext.drewN | apply Ext.drew)) hx_; have e_W0_w3 : Ext W0 w3 := Ext.trans (by repeat (first | assumption | exact Ext.refl _ | exact Ext.of_xt _ _ | apply Ext.alloc | apply Ext.drewN | apply Ext.drew)) hx_; clear hx_)
  rw [H3.out, N3.out]
  have ha : (a == a) = true := by simp
  have hb : (b == b) = true := by simp
  have hc : (c == c) = true := by simp
  go_wp2
  go_ret
  exact ⟨rfl, e_w_w3⟩

set_option maxHeartbeats 2000000 in
theorem alive10_c (w : World) (hT : Tab w) : Calls Tryd.prog 33 #[] w fun e w' => e = .returned (.bool true) ∧ Ext w w' := by
  have HT := Aside0.mk hT
  clear hT
  go_enter Tryd.func33, Tryd.ntmps33
  go_wp2_with fail
  refine (fork10_c _).mono ?_
  rintro _ w1 ⟨P0, P1, p0, p1, rfl, hp1, hx1⟩
  have HP1 := Aside0.mk hp1.at_
  clear hp1
  go_wp2_with fail
  refine (domRules_c (dOf forkE) 0 1 3 P0 P1 p0 p1 _ (HT.out.ext hx1) fork_sm fork_wf HP1.out).mono ?_
  rintro _ w2 ⟨rfl, hx2⟩
  have e_w_w2 := hx1.trans hx2
  rw [fork_r, show rlE (dOf forkE) 0 1 3 = 0 from rlE_of fork_f fork_3]
  clear hx1 hx2
  go_wp2_with fail
  refine (fork10_c _).mono ?_
  rintro _ w3 ⟨Q0, Q1, q0, q1, rfl, hp3, hx3⟩
  have HP3 := Aside0.mk hp3.at_
  have e_w_w3 := e_w_w2.trans hx3
  clear hp3 hx3
  go_wp2_with fail
  refine (nexts10_c (dOf forkE) 0 0 0 Q0 Q1 q0 q1 _ fork_1 fork_2 fork_3 fork_n1 fork_n2 fork_n3 (HT.out.ext e_w_w3) fork_sm fork_wf HP3.out).mono ?_
  rintro _ w4 ⟨rfl, hx4⟩
  have e_w_w4 := e_w_w3.trans hx4
  clear hx4
  go_wp2_with fail
  refine (loop10_c _).mono ?_
  rintro _ w5 ⟨R0, R1, r0, r1, rfl, hp5, hx5⟩
  have HP5 := Aside0.mk hp5.at_
  have e_w_w5 := e_w_w4.trans hx5
  clear hp5 hx5
  go_wp2_with fail
  refine (nexts10_c (dOf loopE) 0 1 1 R0 R1 r0 r1 _ loop_1 loop_2 loop_3 loop_n1 loop_n2 loop_n3 (HT.out.ext e_w_w5) loop_sm loop_wf HP5.out).mono ?_
  rintro _ w6 ⟨rfl, hx6⟩
  have e_w_w6 := e_w_w5.trans hx6
  clear hx6
  go_wp2
  go_ret
  exact ⟨rfl, e_w_w6⟩

set_option maxHeartbeats 2000000 in
theorem rules10_c (p : Prg) (f a b : Int) (A0 A1 : Option Addr) (c0 c1 : Nat) (w : World) (hT : Tab w) (hs : SmP p) (hw : WfP p) (hp : AtP w p A0 A1) :
    Calls Tryd.prog 35 #[vPrg p A0 c0 A1 c1, .int .i64 f, .int .i64 a, .int .i64 b] w fun e w' => e = .returned (.bool (rlB p f a b)) ∧ Ext w w' := by
  have HT := Aside0.mk hT
  have HP := Aside0.mk hp
  have HS := Aside0.mk hs
  have HW := Aside0.mk hw
  clear hT hp hs hw
  unfold vPrg
  go_enter Tryd.func35, Tryd.ntmps35
  go_upto_region 1 with (fail)
  (have e_w_W0 : Ext w (w.alloc (.cells #[.slice A0 p.types.length c0, .slice A1 p.funcs.length c1] 25)) := (by repeat (first | assumption | exact Ext.refl _ | exact Ext.of_xt _ _ | apply Ext.alloc | apply Ext.drewN | apply Ext.drew)); have b_W0_0_0 := stays (w := w.alloc (.cells #[.slice A0 p.types.length c0, .slice A1 p.funcs.length c1] 25)) (a := ⟨w.heap.size, 0, none⟩) (by first | (go_simp; rfl) | rfl); have b_W0_0_1 := stays (w := w.alloc (.cells #[.slice A0 p.types.length c0, .slice A1 p.funcs.length c1] 25)) (a := ⟨w.heap.size, 1, none⟩) (by first | (go_simp; rfl) | rfl); generalize w.alloc (.cells #[.slice A0 p.types.length c0, .slice A1 p.funcs.length c1] 25) = W0 at e_w_W0 b_W0_0_0 b_W0_0_1 ⊢)
  go_wp2_with fail
  refine (domRules_c p f a b A0 A1 c0 c1 _ (HT.out.ext (by repeat (first | assumption | exact Ext.refl _ | exact Ext.of_xt _ _ | apply Ext.alloc | apply Ext.drewN | apply Ext.drew))) HS.out HW.out (HP.out.ext (by repeat (first | assumption | exact Ext.refl _ | exact Ext.of_xt _ _ | apply Ext.alloc | apply Ext.drewN | apply Ext.drew)))).mono ?_
  (rintro _ w1 ⟨rfl, hx_⟩; have e_w_w1 : Ext w w1 := Ext.trans (by repeat (first | assumption | exact Ext.refl _ | exact Ext.of_xt _ _ | apply Ext.alloc | apply Ext.drewN | apply Ext.drew)) hx_; have e_W0_w1 : Ext W0 w1 := Ext.trans (by repeat (first | assumption | exact Ext.refl _ | exact Ext.of_xt _ _ | apply Ext.alloc | apply Ext.drewN | apply Ext.drew)) hx_; clear hx_)
  by_cases h : rlE p f a b = 0
  case pos =>
    rw [h]
    clear h
    go_wp2
    go_ret
    exact ⟨rfl, e_w_w1⟩
  case neg =>
    have hq : (rlE p f a b == 0) = false := by simpa using h
    have HF := Aside0.mk (rlB_no h)
    clear h
    generalize rlE p f a b = e at *
    go_wp2
    go_ret
    exact ⟨ret_bool HF.out.symm, e_w_w1⟩
end Go.Proofs.YtjbnabjjbofhjaaDoor.Fes
