/- DomNexts: a block's rulers are itself, the one next to it, the one next to that, and so on, up to block 0. -/
import Derived.Test.YtjbnabjjbofhjaaDoorDg3
set_option linter.unusedVariables false
set_option linter.unusedSimpArgs false
namespace Go.Proofs.YtjbnabjjbofhjaaDoor.Fes
open Go.RowKit Go.Proofs.YtjbnabjjbofhjaaDoorW.PrintWords

set_option maxRecDepth 100000 in
set_option maxHeartbeats 8000000 in
theorem domNexts_c (p : Prg) (f a b : Int) (A0 A1 : Option Addr) (c0 c1 : Nat) (w : World) (hT : Tab w) (hw : WfP p) (hz : ∀ f ∈ p.funcs, ∀ b ∈ f.blocks, b.ins.length ≤ 140737488351232) (hp : AtP w p A0 A1) :
    Calls Tryd.prog 9 #[vPrg p A0 c0 A1 c1, .int .i64 f, .int .i64 a, .int .i64 b] w fun e w' => e = .returned (.bool true) ∧ Ext w w' := by
  have HT := Aside0.mk hT
  have HP := Aside0.mk hp
  have HW := Aside0.mk hw
  have HZ := Aside0.mk hz
  clear hT hp hw hz
  unfold vPrg
  go_enter Tryd.func9, Tryd.ntmps9
  go_upto_region 1 with (fail)
  (have e_w_W0 : Ext w (w.alloc (.cells #[.slice A0 p.types.length c0, .slice A1 p.funcs.length c1] 25)) := (by repeat (first | assumption | exact Ext.refl _ | exact Ext.of_xt _ _ | apply Ext.alloc | apply Ext.drewN | apply Ext.drew)); have b_W0_0_0 := stays (w := w.alloc (.cells #[.slice A0 p.types.length c0, .slice A1 p.funcs.length c1] 25)) (a := ⟨w.heap.size, 0, none⟩) (by first | (go_simp; rfl) | rfl); have b_W0_0_1 := stays (w := w.alloc (.cells #[.slice A0 p.types.length c0, .slice A1 p.funcs.length c1] 25)) (a := ⟨w.heap.size, 1, none⟩) (by first | (go_simp; rfl) | rfl); generalize w.alloc (.cells #[.slice A0 p.types.length c0, .slice A1 p.funcs.length c1] 25) = W0 at e_w_W0 b_W0_0_0 b_W0_0_1 ⊢)
  go_wp2_with fail
  refine (alive10_c _ (HT.out.ext (by repeat (first | assumption | exact Ext.refl _ | exact Ext.of_xt _ _ | apply Ext.alloc | apply Ext.drewN | apply Ext.drew)))).mono ?_
  (rintro _ w1 ⟨rfl, hx_⟩; have e_w_w1 : Ext w w1 := Ext.trans (by repeat (first | assumption | exact Ext.refl _ | exact Ext.of_xt _ _ | apply Ext.alloc | apply Ext.drewN | apply Ext.drew)) hx_; have e_W0_w1 : Ext W0 w1 := Ext.trans (by repeat (first | assumption | exact Ext.refl _ | exact Ext.of_xt _ _ | apply Ext.alloc | apply Ext.drewN | apply Ext.drew)) hx_; clear hx_)
  go_wp2_with fail
  refine (great_c p 300 A0 A1 c0 c1 _ (by omega) (by omega) HZ.out (HP.out.ext (by repeat (first | assumption | exact Ext.refl _ | exact Ext.of_xt _ _ | apply Ext.alloc | apply Ext.drewN | apply Ext.drew)))).mono ?_
  rintro _ w2 ⟨gb, rfl, hsm, hx_⟩
  have e_w_w2 := e_w_w1.trans hx_
  have e_W0_w2 := e_W0_w1.trans hx_
  have HSM := Aside0.mk hsm
  clear hsm hx_
  cases gb with
  | true =>
    go_wp2
    go_ret
    exact ⟨rfl, e_w_w2⟩
  | false =>
    have HS := Aside0.mk (HSM.out rfl)
    clear HSM
    go_wp2_with fail
    refine (domRules_c p f a b A0 A1 c0 c1 _ (HT.out.ext e_w_w2) HS.out HW.out (HP.out.ext e_w_w2)).mono ?_
    rintro _ w3 ⟨rfl, hx_⟩
    have e_w_w3 := e_w_w2.trans hx_
    have e_W0_w3 := e_W0_w2.trans hx_
    clear hx_
    by_cases h1 : rlE p f a b = 0
    case neg =>
      have hne : (rlE p f a b != 0) = true := by simp [h1]
      rw [rlB_no h1]
      generalize rlE p f a b = e1 at *
      clear h1
      go_wp2
      go_ret
      exact ⟨rfl, e_w_w3⟩
    have H1 := Aside0.mk h1
    rw [h1]
    have HD := Aside0.mk (dat_start h1 (blocks_le HS.out (flE_zero (rlE_zero h1).1).2.1.1 (flE_zero (rlE_zero h1).1).2.1.2))
    clear h1
    go_wp2
    go_loopg [12, 13, 14] 20 (fun gk s c i wr => ∃ (k : Nat) (met : Bool) (y : Int), k ≤ 20 ∧ gk = 20 - k ∧ s = .bool met ∧ c = .int .i64 y ∧ i = .int .i64 k ∧ Aside0 (DAt p f a b y k met) ∧ Ext w3 wr)
    case atStart => exact ⟨0, false, b, by omega, by omega, rfl, rfl, rfl, HD, Ext.refl _⟩
    case round =>
      obtain ⟨k, met, y, hk, hgk, rfl, rfl, rfl, HA, e_w3_wr⟩ := hrel
      have e_w_wr := e_w_w3.trans e_w3_wr
      have e_W0_wr := e_W0_w3.trans e_w3_wr
      have HGK := Aside0.mk hgk
      clear hgk
      by_cases hend : y < 0 ∨ 20 ≤ k
      case pos =>
        obtain ⟨h2, h3⟩ := dat_end HA.out hend
        subst h2 h3
        have hq : (rlB p f a b == rlB p f a b) = true := by simp
        have HR : rlB p f a b = rlB p f a b := rfl
        clear HR hend HA
        generalize rlB p f a b = r at *
        by_cases hk20 : k < 20
        all_goals go_wp2
        all_goals go_ret
        all_goals exact ⟨rfl, e_w_wr⟩
      case neg =>
        have hy : 0 ≤ y := by omega
        have hk20 : k < 20 := by omega
        obtain ⟨g1, g2, g3, g4⟩ := dat_step HA.out hy H1.out
        have HD2 := Aside0.mk g4
        have HG1 := Aside0.mk g1
        have hq1 : (dnP p f y == y) = false := by simpa using g2
        have HG3 := Aside0.mk g3
        clear hend HA g1 g2 g3 g4
        generalize hdn : dnP p f y = n at *
        have HDN := Aside0.mk hdn
        clear hdn
        cases met with
        | true =>
          go_wp2_with fail
          refine (domNext_c p f y A0 A1 c0 c1 _ (HT.out.ext e_w_wr) HS.out HW.out (HP.out.ext e_w_wr)).mono ?_
          rintro _ w4 ⟨rfl, hx_⟩
          have e_w3_w4 := e_w3_wr.trans hx_
          rw [HG1.out, HDN.out]
          by_cases hn : n < 0
          case pos =>
            have hy0 : y = 0 := Classical.byContradiction fun e => HG3.out ⟨hn, e⟩
            have hq3 : (y != 0) = false := by simp [hy0]
            have HD3 := Aside0.mk (show DAt p f a b n (k + 1) true from HD2.out)
            clear HD2 HG3 hy0 hx_
            go_wp2
            go_roundg (20 - (k + 1))
            case rel => exact ⟨k + 1, true, n, by omega, rfl, rfl, rfl, by go_num, HD3, e_w3_w4⟩
            case measure => have := HGK.out; omega
          case neg =>
            have HD3 := Aside0.mk (show DAt p f a b n (k + 1) true from HD2.out)
            clear HD2 HG3 hx_
            go_wp2
            go_roundg (20 - (k + 1))
            case rel => exact ⟨k + 1, true, n, by omega, rfl, rfl, rfl, by go_num, HD3, e_w3_w4⟩
            case measure => have := HGK.out; omega
        | false =>
          have HD4 := Aside0.mk (show DAt p f a b n (k + 1) (y == a) from HD2.out)
          clear HD2
          generalize hya : (y == a) = r at *
          have HYA := Aside0.mk hya
          clear HYA
          go_wp2_with fail
          refine (domNext_c p f y A0 A1 c0 c1 _ (HT.out.ext e_w_wr) HS.out HW.out (HP.out.ext e_w_wr)).mono ?_
          rintro _ w4 ⟨rfl, hx_⟩
          have e_w3_w4 := e_w3_wr.trans hx_
          rw [HG1.out, HDN.out]
          by_cases hn : n < 0
          case pos =>
            have hy0 : y = 0 := Classical.byContradiction fun e => HG3.out ⟨hn, e⟩
            have hq3 : (y != 0) = false := by simp [hy0]
            clear HG3 hy0 hx_
            go_wp2
            go_roundg (20 - (k + 1))
            case rel => exact ⟨k + 1, r, n, by omega, rfl, rfl, rfl, by go_num, HD4, e_w3_w4⟩
            case measure => have := HGK.out; omega
          case neg =>
            clear HG3 hx_
            go_wp2
            go_roundg (20 - (k + 1))
            case rel => exact ⟨k + 1, r, n, by omega, rfl, rfl, rfl, by go_num, HD4, e_w3_w4⟩
            case measure => have := HGK.out; omega
end Go.Proofs.YtjbnabjjbofhjaaDoor.Fes
