/- DomLaws: block 0 rules all; what rules one that rules another one rules that; two unlike ones don't rule each other; of two that rule one, one rules the other. -/
import Derived.Test.YtjbnabjjbofhjaaDoorDg3
set_option linter.unusedVariables false
set_option linter.unusedSimpArgs false
namespace Go.Proofs.YtjbnabjjbofhjaaDoor.Fes
open Go.RowKit Go.Proofs.YtjbnabjjbofhjaaDoorW.PrintWords

set_option maxRecDepth 100000 in
set_option maxHeartbeats 8000000 in
theorem domLaws_c (p : Prg) (f a b c : Int) (A0 A1 : Option Addr) (c0 c1 : Nat) (w : World) (hT : Tab w) (hw : WfP p) (hz : ∀ f ∈ p.funcs, ∀ b ∈ f.blocks, b.ins.length ≤ 140737488351232) (hp : AtP w p A0 A1) :
    Calls Tryd.prog 8 #[vPrg p A0 c0 A1 c1, .int .i64 f, .agg #[.int .i64 a, .int .i64 b, .int .i64 c]] w fun e w' => e = .returned (.bool true) ∧ Ext w w' := by
  have HT := Aside0.mk hT
  have HP := Aside0.mk hp
  have HW := Aside0.mk hw
  have HZ := Aside0.mk hz
  clear hT hp hw hz
  unfold vPrg
  go_enter Tryd.func8, Tryd.ntmps8
  go_upto_region 1 with (fail)
  (have e_w_W0 : Ext w ((w.alloc (.cells #[.slice A0 p.types.length c0, .slice A1 p.funcs.length c1] 25)).alloc (.cells #[.int .i64 a, .int .i64 b, .int .i64 c] 54)) := (by repeat (first | assumption | exact Ext.refl _ | exact Ext.of_xt _ _ | apply Ext.alloc | apply Ext.drewN | apply Ext.drew)); have b_W0_0_0 := stays (w := (w.alloc (.cells #[.slice A0 p.types.length c0, .slice A1 p.funcs.length c1] 25)).alloc (.cells #[.int .i64 a, .int .i64 b, .int .i64 c] 54)) (a := ⟨w.heap.size, 0, none⟩) (by first | (go_simp; rfl) | rfl); have b_W0_0_1 := stays (w := (w.alloc (.cells #[.slice A0 p.types.length c0, .slice A1 p.funcs.length c1] 25)).alloc (.cells #[.int .i64 a, .int .i64 b, .int .i64 c] 54)) (a := ⟨w.heap.size, 1, none⟩) (by first | (go_simp; rfl) | rfl); have b_W0_1_0 := stays (w := (w.alloc (.cells #[.slice A0 p.types.length c0, .slice A1 p.funcs.length c1] 25)).alloc (.cells #[.int .i64 a, .int .i64 b, .int .i64 c] 54)) (a := ⟨(w.heap.size + 1), 0, none⟩) (by first | (go_simp; rfl) | rfl); have b_W0_1_1 := stays (w := (w.alloc (.cells #[.slice A0 p.types.length c0, .slice A1 p.funcs.length c1] 25)).alloc (.cells #[.int .i64 a, .int .i64 b, .int .i64 c] 54)) (a := ⟨(w.heap.size + 1), 1, none⟩) (by first | (go_simp; rfl) | rfl); have b_W0_1_2 := stays (w := (w.alloc (.cells #[.slice A0 p.types.length c0, .slice A1 p.funcs.length c1] 25)).alloc (.cells #[.int .i64 a, .int .i64 b, .int .i64 c] 54)) (a := ⟨(w.heap.size + 1), 2, none⟩) (by first | (go_simp; rfl) | rfl); generalize (w.alloc (.cells #[.slice A0 p.types.length c0, .slice A1 p.funcs.length c1] 25)).alloc (.cells #[.int .i64 a, .int .i64 b, .int .i64 c] 54) = W0 at e_w_W0 b_W0_0_0 b_W0_0_1 b_W0_1_0 b_W0_1_1 b_W0_1_2 ⊢)
  go_wp2_with fail
  refine (alive10_c _ (HT.out.ext (by repeat (first | assumption | exact Ext.refl _ | exact Ext.of_xt _ _ | apply Ext.alloc | apply Ext.drewN | apply Ext.drew)))).mono ?_
  (rintro _ w1 ⟨rfl, hx_⟩; have e_w_w1 : Ext w w1 := Ext.trans (by repeat (first | assumption | exact Ext.refl _ | exact Ext.of_xt _ _ | apply Ext.alloc | apply Ext.drewN | apply Ext.drew)) hx_; have e_W0_w1 : Ext W0 w1 := Ext.trans (by repeat (first | assumption | exact Ext.refl _ | exact Ext.of_xt _ _ | apply Ext.alloc | apply Ext.drewN | apply Ext.drew)) hx_; clear hx_)
  go_wp2_with fail
  refine (great_c p 300 A0 A1 c0 c1 _ (by omega) (by omega) HZ.out (HP.out.ext (by repeat (first | assumption | exact Ext.refl _ | exact Ext.of_xt _ _ | apply Ext.alloc | apply Ext.drewN | apply Ext.drew)))).mono ?_
  rintro _ w2 ⟨gb, rfl, hsm, hx_⟩
  have e_w_w2 := e_w_w1.trans hx_
  have e_W0_w2 := e_W0_w1.trans hx_
  have HSM := Aside0.mk hsm
  clear hsm hx_
  cases gb with
  | true =>
    go_wp2
    go_ret
    exact ⟨rfl, e_w_w2⟩
  | false =>
    have HS := Aside0.mk (HSM.out rfl)
    clear HSM
    have HCR : Aside0 (∀ (W : World) (x y : Int), Ext w W → Calls Tryd.prog 35 #[vPrg p A0 c0 A1 c1, .int .i64 f, .int .i64 x, .int .i64 y] W fun e w' => e = .returned (.bool (rlB p f x y)) ∧ Ext W w') := ⟨fun W x y hW => rules10_c p f x y A0 A1 c0 c1 W (HT.out.ext hW) HS.out HW.out (HP.out.ext hW)⟩
    go_upto_region 4 with (fail)
    go_quiet (fail)
    go_wp2_with fail
    refine (domNext_c p f c A0 A1 c0 c1 _ (HT.out.ext (by repeat (first | assumption | exact Ext.refl _ | exact Ext.of_xt _ _ | apply Ext.alloc | apply Ext.drewN | apply Ext.drew))) HS.out HW.out (HP.out.ext (by repeat (first | assumption | exact Ext.refl _ | exact Ext.of_xt _ _ | apply Ext.alloc | apply Ext.drewN | apply Ext.drew)))).mono ?_
    (rintro _ w4 ⟨rfl, hx_⟩; have e_w_w4 : Ext w w4 := Ext.trans (by repeat (first | assumption | exact Ext.refl _ | exact Ext.of_xt _ _ | apply Ext.alloc | apply Ext.drewN | apply Ext.drew)) hx_; have e_W0_w4 : Ext W0 w4 := Ext.trans (by repeat (first | assumption | exact Ext.refl _ | exact Ext.of_xt _ _ | apply Ext.alloc | apply Ext.drewN | apply Ext.drew)) hx_; clear hx_)
    by_cases hc : domE p f c = 0
    case neg =>
      have hne : (domE p f c != 0) = true := by simp [hc]
      have HR := Aside0.mk (rlB_no (p := p) (f := f) (a := a) (b := c) (fun h => hc (rlE_zero h).2))
      generalize domE p f c = e at *
      generalize dnP p f c = n at *
      clear hc
      go_wp2_with fail
      refine (HCR.out _ a c (by repeat (first | assumption | exact Ext.refl _ | exact Ext.of_xt _ _ | apply Ext.alloc | apply Ext.drewN | apply Ext.drew))).mono ?_
      (rintro _ w5 ⟨rfl, hx_⟩; have e_w_w5 : Ext w w5 := Ext.trans (by repeat (first | assumption | exact Ext.refl _ | exact Ext.of_xt _ _ | apply Ext.alloc | apply Ext.drewN | apply Ext.drew)) hx_; have e_W0_w5 : Ext W0 w5 := Ext.trans (by repeat (first | assumption | exact Ext.refl _ | exact Ext.of_xt _ _ | apply Ext.alloc | apply Ext.drewN | apply Ext.drew)) hx_; clear hx_)
      rw [HR.out]
      go_wp2
      go_ret
      exact ⟨rfl, e_w_w5⟩
    have hDL := dlaws (a := a) (b := b) hc
    have HDL := Aside0.mk hDL
    have Z := Aside0.mk hDL.z
    have S := Aside0.mk hDL.s
    rw [hc]
    generalize dnP p f c = n at *
    clear hc hDL
    go_upto_region 8 with (fail)
    go_cut [79] from 45 to 79 (fun s wx => s = .bool false ∧ Ext w4 wx)
    case first =>
      go_wp2_with fail
      refine (HCR.out _ 0 c (by repeat (first | assumption | exact Ext.refl _ | exact Ext.of_xt _ _ | apply Ext.alloc | apply Ext.drewN | apply Ext.drew))).mono ?_
      (rintro _ w5 ⟨rfl, hx_⟩; have e_w_w5 : Ext w w5 := Ext.trans (by repeat (first | assumption | exact Ext.refl _ | exact Ext.of_xt _ _ | apply Ext.alloc | apply Ext.drewN | apply Ext.drew)) hx_; have e_W0_w5 : Ext W0 w5 := Ext.trans (by repeat (first | assumption | exact Ext.refl _ | exact Ext.of_xt _ _ | apply Ext.alloc | apply Ext.drewN | apply Ext.drew)) hx_; have e_w4_w5 : Ext w4 w5 := Ext.trans (by repeat (first | assumption | exact Ext.refl _ | exact Ext.of_xt _ _ | apply Ext.alloc | apply Ext.drewN | apply Ext.drew)) hx_; clear hx_)
      rw [Z.out]
      go_wp2_with fail
      refine (HCR.out _ c c (by repeat (first | assumption | exact Ext.refl _ | exact Ext.of_xt _ _ | apply Ext.alloc | apply Ext.drewN | apply Ext.drew))).mono ?_
      (rintro _ w6 ⟨rfl, hx_⟩; have e_w_w6 : Ext w w6 := Ext.trans (by repeat (first | assumption | exact Ext.refl _ | exact Ext.of_xt _ _ | apply Ext.alloc | apply Ext.drewN | apply Ext.drew)) hx_; have e_W0_w6 : Ext W0 w6 := Ext.trans (by repeat (first | assumption | exact Ext.refl _ | exact Ext.of_xt _ _ | apply Ext.alloc | apply Ext.drewN | apply Ext.drew)) hx_; have e_w4_w6 : Ext w4 w6 := Ext.trans (by repeat (first | assumption | exact Ext.refl _ | exact Ext.of_xt _ _ | apply Ext.alloc | apply Ext.drewN | apply Ext.drew)) hx_; clear hx_)
      rw [S.out]
      go_wp2_with fail
      refine (HCR.out _ a b (by repeat (first | assumption | exact Ext.refl _ | exact Ext.of_xt _ _ | apply Ext.alloc | apply Ext.drewN | apply Ext.drew))).mono ?_
      (rintro _ w7 ⟨rfl, hx_⟩; have e_w_w7 : Ext w w7 := Ext.trans (by repeat (first | assumption | exact Ext.refl _ | exact Ext.of_xt _ _ | apply Ext.alloc | apply Ext.drewN | apply Ext.drew)) hx_; have e_W0_w7 : Ext W0 w7 := Ext.trans (by repeat (first | assumption | exact Ext.refl _ | exact Ext.of_xt _ _ | apply Ext.alloc | apply Ext.drewN | apply Ext.drew)) hx_; have e_w4_w7 : Ext w4 w7 := Ext.trans (by repeat (first | assumption | exact Ext.refl _ | exact Ext.of_xt _ _ | apply Ext.alloc | apply Ext.drewN | apply Ext.drew)) hx_; clear hx_)
      cases h1 : rlB p f a b with
      | false =>
        clear h1
        go_wp2_with fail
        go_meet
        case rel => exact ⟨rfl, e_w4_w7⟩
      | true =>
        have H1 := Aside0.mk h1
        clear h1
        go_wp2_with fail
        refine (HCR.out _ b c (by repeat (first | assumption | exact Ext.refl _ | exact Ext.of_xt _ _ | apply Ext.alloc | apply Ext.drewN | apply Ext.drew))).mono ?_
        (rintro _ w8 ⟨rfl, hx_⟩; have e_w_w8 : Ext w w8 := Ext.trans (by repeat (first | assumption | exact Ext.refl _ | exact Ext.of_xt _ _ | apply Ext.alloc | apply Ext.drewN | apply Ext.drew)) hx_; have e_W0_w8 : Ext W0 w8 := Ext.trans (by repeat (first | assumption | exact Ext.refl _ | exact Ext.of_xt _ _ | apply Ext.alloc | apply Ext.drewN | apply Ext.drew)) hx_; have e_w4_w8 : Ext w4 w8 := Ext.trans (by repeat (first | assumption | exact Ext.refl _ | exact Ext.of_xt _ _ | apply Ext.alloc | apply Ext.drewN | apply Ext.drew)) hx_; clear hx_)
        cases h2 : rlB p f b c with
        | false =>
          clear h2
          go_wp2_with fail
          go_meet
          case rel => exact ⟨rfl, e_w4_w8⟩
        | true =>
          have H3 := Aside0.mk (HDL.out.t H1.out h2)
          clear h2
          go_wp2_with fail
          refine (HCR.out _ a c (by repeat (first | assumption | exact Ext.refl _ | exact Ext.of_xt _ _ | apply Ext.alloc | apply Ext.drewN | apply Ext.drew))).mono ?_
          (rintro _ w9 ⟨rfl, hx_⟩; have e_w_w9 : Ext w w9 := Ext.trans (by repeat (first | assumption | exact Ext.refl _ | exact Ext.of_xt _ _ | apply Ext.alloc | apply Ext.drewN | apply Ext.drew)) hx_; have e_W0_w9 : Ext W0 w9 := Ext.trans (by repeat (first | assumption | exact Ext.refl _ | exact Ext.of_xt _ _ | apply Ext.alloc | apply Ext.drewN | apply Ext.drew)) hx_; have e_w4_w9 : Ext w4 w9 := Ext.trans (by repeat (first | assumption | exact Ext.refl _ | exact Ext.of_xt _ _ | apply Ext.alloc | apply Ext.drewN | apply Ext.drew)) hx_; clear hx_)
          rw [H3.out]
          go_wp2_with fail
          go_meet
          case rel => exact ⟨rfl, e_w4_w9⟩
    case rest =>
      obtain ⟨rfl, hx_⟩ := hcut
      have e_w_wc : Ext w wc := e_w_w4.trans hx_
      have e_W0_wc : Ext W0 wc := e_W0_w4.trans hx_
      obtain ⟨wd, hwd⟩ : ∃ wd, wd = wc := ⟨_, rfl⟩
      have e_wd_wc : Ext wd wc := by rw [hwd]; exact Ext.refl _
      have e_w_wd : Ext w wd := by rw [hwd]; exact e_w_wc
      have e_W0_wd : Ext W0 wd := by rw [hwd]; exact e_W0_wc
      clear hwd hx_
      go_upto_region 10 with (fail)
      go_cut [96] from 80 to 96 (fun s wx => s = .bool false ∧ Ext wd wx)
      case first =>
        by_cases hac : a = c
        case pos =>
          have hq : (a != c) = false := by simp [hac]
          clear hac
          go_wp2_with fail
          go_meet
          case rel => exact ⟨rfl, e_wd_wc⟩
        case neg =>
          have hq : (a != c) = true := by simp [hac]
          have HAC := Aside0.mk hac
          clear hac
          go_wp2_with fail
          refine (HCR.out _ a c (by repeat (first | assumption | exact Ext.refl _ | exact Ext.of_xt _ _ | apply Ext.alloc | apply Ext.drewN | apply Ext.drew))).mono ?_
          (rintro _ w5 ⟨rfl, hx_⟩; have e_w_w5 : Ext w w5 := Ext.trans (by repeat (first | assumption | exact Ext.refl _ | exact Ext.of_xt _ _ | apply Ext.alloc | apply Ext.drewN | apply Ext.drew)) hx_; have e_W0_w5 : Ext W0 w5 := Ext.trans (by repeat (first | assumption | exact Ext.refl _ | exact Ext.of_xt _ _ | apply Ext.alloc | apply Ext.drewN | apply Ext.drew)) hx_; have e_wd_w5 : Ext wd w5 := Ext.trans (by repeat (first | assumption | exact Ext.refl _ | exact Ext.of_xt _ _ | apply Ext.alloc | apply Ext.drewN | apply Ext.drew)) hx_; clear hx_)
          cases h1 : rlB p f a c with
          | false =>
            clear h1
            go_wp2_with fail
            go_meet
            case rel => exact ⟨rfl, e_wd_w5⟩
          | true =>
            have H3 := Aside0.mk (HDL.out.y HAC.out h1)
            clear h1
            go_wp2_with fail
            refine (HCR.out _ c a (by repeat (first | assumption | exact Ext.refl _ | exact Ext.of_xt _ _ | apply Ext.alloc | apply Ext.drewN | apply Ext.drew))).mono ?_
            (rintro _ w6 ⟨rfl, hx_⟩; have e_w_w6 : Ext w w6 := Ext.trans (by repeat (first | assumption | exact Ext.refl _ | exact Ext.of_xt _ _ | apply Ext.alloc | apply Ext.drewN | apply Ext.drew)) hx_; have e_W0_w6 : Ext W0 w6 := Ext.trans (by repeat (first | assumption | exact Ext.refl _ | exact Ext.of_xt _ _ | apply Ext.alloc | apply Ext.drewN | apply Ext.drew)) hx_; have e_wd_w6 : Ext wd w6 := Ext.trans (by repeat (first | assumption | exact Ext.refl _ | exact Ext.of_xt _ _ | apply Ext.alloc | apply Ext.drewN | apply Ext.drew)) hx_; clear hx_)
            rw [H3.out]
            go_wp2_with fail
            go_meet
            case rel => exact ⟨rfl, e_wd_w6⟩
      case rest =>
        obtain ⟨rfl, hx_⟩ := hcut
        have e_w_wc2 : Ext w wc := e_w_wd.trans hx_
        have e_W0_wc2 : Ext W0 wc := e_W0_wd.trans hx_
        clear hx_
        go_wp2_with fail
        refine (HCR.out _ a c (by repeat (first | assumption | exact Ext.refl _ | exact Ext.of_xt _ _ | apply Ext.alloc | apply Ext.drewN | apply Ext.drew))).mono ?_
        (rintro _ w5 ⟨rfl, hx_⟩; have e_w_w5 : Ext w w5 := Ext.trans (by repeat (first | assumption | exact Ext.refl _ | exact Ext.of_xt _ _ | apply Ext.alloc | apply Ext.drewN | apply Ext.drew)) hx_; have e_W0_w5 : Ext W0 w5 := Ext.trans (by repeat (first | assumption | exact Ext.refl _ | exact Ext.of_xt _ _ | apply Ext.alloc | apply Ext.drewN | apply Ext.drew)) hx_; clear hx_)
        cases h1 : rlB p f a c with
        | false =>
          clear h1
          go_wp2
          go_ret
          exact ⟨rfl, e_w_w5⟩
        | true =>
          have H1 := Aside0.mk h1
          clear h1
          go_wp2_with fail
          refine (HCR.out _ b c (by repeat (first | assumption | exact Ext.refl _ | exact Ext.of_xt _ _ | apply Ext.alloc | apply Ext.drewN | apply Ext.drew))).mono ?_
          (rintro _ w6 ⟨rfl, hx_⟩; have e_w_w6 : Ext w w6 := Ext.trans (by repeat (first | assumption | exact Ext.refl _ | exact Ext.of_xt _ _ | apply Ext.alloc | apply Ext.drewN | apply Ext.drew)) hx_; have e_W0_w6 : Ext W0 w6 := Ext.trans (by repeat (first | assumption | exact Ext.refl _ | exact Ext.of_xt _ _ | apply Ext.alloc | apply Ext.drewN | apply Ext.drew)) hx_; clear hx_)
          cases h2 : rlB p f b c with
          | false =>
            clear h2
            go_wp2
            go_ret
            exact ⟨rfl, e_w_w6⟩
          | true =>
            have H2 := Aside0.mk h2
            clear h2
            go_wp2_with fail
            refine (HCR.out _ a b (by repeat (first | assumption | exact Ext.refl _ | exact Ext.of_xt _ _ | apply Ext.alloc | apply Ext.drewN | apply Ext.drew))).mono ?_
            (rintro _ w7 ⟨rfl, hx_⟩; have e_w_w7 : Ext w w7 := Ext.trans (by repeat (first | assumption | exact Ext.refl _ | exact Ext.of_xt _ _ | apply Ext.alloc | apply Ext.drewN | apply Ext.drew)) hx_; have e_W0_w7 : Ext W0 w7 := Ext.trans (by repeat (first | assumption | exact Ext.refl _ | exact Ext.of_xt _ _ | apply Ext.alloc | apply Ext.drewN | apply Ext.drew)) hx_; clear hx_)
            cases h3 : rlB p f a b with
            | true =>
              clear h3
              go_wp2
              go_ret
              exact ⟨rfl, e_w_w7⟩
            | false =>
              have H4 := Aside0.mk (HDL.out.u H1.out H2.out h3)
              clear h3
              go_wp2_with fail
              refine (HCR.out _ b a (by repeat (first | assumption | exact Ext.refl _ | exact Ext.of_xt _ _ | apply Ext.alloc | apply Ext.drewN | apply Ext.drew))).mono ?_
              (rintro _ w8 ⟨rfl, hx_⟩; have e_w_w8 : Ext w w8 := Ext.trans (by repeat (first | assumption | exact Ext.refl _ | exact Ext.of_xt _ _ | apply Ext.alloc | apply Ext.drewN | apply Ext.drew)) hx_; have e_W0_w8 : Ext W0 w8 := Ext.trans (by repeat (first | assumption | exact Ext.refl _ | exact Ext.of_xt _ _ | apply Ext.alloc | apply Ext.drewN | apply Ext.drew)) hx_; clear hx_)
              rw [H4.out]
              go_wp2
              go_ret
              exact ⟨rfl, e_w_w8⟩
end Go.Proofs.YtjbnabjjbofhjaaDoor.Fes
