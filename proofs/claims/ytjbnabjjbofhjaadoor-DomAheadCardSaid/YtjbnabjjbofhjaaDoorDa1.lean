/- DomAhead: what rules a block rules each that goes to it, and is reached, or is the block. -/
import Derived.Test.YtjbnabjjbofhjaaDoorDg3
import Derived.Deep.RegionHeld3
set_option linter.unusedVariables false
set_option linter.unusedSimpArgs false
namespace Go.Proofs.YtjbnabjjbofhjaaDoor.Fes
open Go.RowKit Go.Proofs.YtjbnabjjbofhjaaDoorW.PrintWords

theorem rules10_v (p : Prg) (f a b : Int) (A0 A1 : Option Addr) (c0 c1 : Nat) (w : World) (r : Bool) (hr : rlB p f a b = r) (hT : Tab w) (hs : SmP p) (hw : WfP p) (hp : AtP w p A0 A1) :
    Calls Tryd.prog 35 #[vPrg p A0 c0 A1 c1, .int .i64 f, .int .i64 a, .int .i64 b] w fun e w' => e = .returned (.bool r) ∧ Ext w w' := by
  subst hr
  exact rules10_c p f a b A0 A1 c0 c1 w hT hs hw hp
theorem prP_ln {p : Prg} {f b : Int} (hs : SmP p) (h : flE p f b = 0) : (prP p f b).length ≤ 20 := by
  obtain ⟨_, hf, _⟩ := flE_zero h
  have h1 := blocks_le hs hf.1 hf.2
  unfold prP
  rw [if_pos h]
  exact Nat.le_trans (prL_len _ _ _) h1
theorem allB_succ (p : Prg) (f a : Int) (l : List Int) (k : Nat) (h : k < l.length) : allB p f a (l.take (k + 1)) = (allB p f a (l.take k) && (domE p f l[k] != 0 || rlB p f a l[k])) := by
  rw [take_snoc l k h, allB_snoc]

set_option maxRecDepth 100000 in
set_option maxHeartbeats 8000000 in
theorem domAheadLaw_c (p : Prg) (f a b : Int) (A0 A1 : Option Addr) (c0 c1 : Nat) (w : World) (hT : Tab w) (hw : WfP p) (hz : ∀ f ∈ p.funcs, ∀ b ∈ f.blocks, b.ins.length ≤ 140737488351232) (hp : AtP w p A0 A1) :
    Calls Tryd.prog 10 #[vPrg p A0 c0 A1 c1, .int .i64 f, .int .i64 a, .int .i64 b] w fun e w' => e = .returned (.bool true) ∧ Ext w w' := by
  have HT := Aside0.mk hT
  have HP := Aside0.mk hp
  have HW := Aside0.mk hw
  have HZ := Aside0.mk hz
  clear hT hp hw hz
  unfold vPrg
  go_enter Tryd.func10, Tryd.ntmps10
  go_upto_region 1 with (fail)
  (have e_w_W0 : Ext w (w.alloc (.cells #[.slice A0 p.types.length c0, .slice A1 p.funcs.length c1] 25)) := (by repeat (first | assumption | exact Ext.refl _ | exact Ext.of_xt _ _ | apply Ext.alloc | apply Ext.drewN | apply Ext.drew)); have b_W0_0_0 := stays (w := w.alloc (.cells #[.slice A0 p.types.length c0, .slice A1 p.funcs.length c1] 25)) (a := ⟨w.heap.size, 0, none⟩) (by first | (go_simp; rfl) | rfl); have b_W0_0_1 := stays (w := w.alloc (.cells #[.slice A0 p.types.length c0, .slice A1 p.funcs.length c1] 25)) (a := ⟨w.heap.size, 1, none⟩) (by first | (go_simp; rfl) | rfl); generalize w.alloc (.cells #[.slice A0 p.types.length c0, .slice A1 p.funcs.length c1] 25) = W0 at e_w_W0 b_W0_0_0 b_W0_0_1 ⊢)
  go_wp2_with fail
  refine (alive10_c _ (HT.out.ext (by repeat (first | assumption | exact Ext.refl _ | exact Ext.of_xt _ _ | apply Ext.alloc | apply Ext.drewN | apply Ext.drew)))).mono ?_
  (rintro _ w1 ⟨rfl, hx_⟩; have e_w_w1 : Ext w w1 := Ext.trans (by repeat (first | assumption | exact Ext.refl _ | exact Ext.of_xt _ _ | apply Ext.alloc | apply Ext.drewN | apply Ext.drew)) hx_; have e_W0_w1 : Ext W0 w1 := Ext.trans (by repeat (first | assumption | exact Ext.refl _ | exact Ext.of_xt _ _ | apply Ext.alloc | apply Ext.drewN | apply Ext.drew)) hx_; clear hx_)
  go_wp2_with fail
  refine (great_c p 300 A0 A1 c0 c1 _ (by omega) (by omega) HZ.out (HP.out.ext (by repeat (first | assumption | exact Ext.refl _ | exact Ext.of_xt _ _ | apply Ext.alloc | apply Ext.drewN | apply Ext.drew)))).mono ?_
  rintro _ w2 ⟨gb, rfl, hsm, hx_⟩
  have e_w_w2 := e_w_w1.trans hx_
  have e_W0_w2 := e_W0_w1.trans hx_
  have HSM := Aside0.mk hsm
  clear hsm hx_
  cases gb with
  | true =>
    go_wp2
    go_ret
    exact ⟨rfl, e_w_w2⟩
  | false =>
    have HS := Aside0.mk (HSM.out rfl)
    clear HSM
    go_wp2_with fail
    refine (domRules_c p f a b A0 A1 c0 c1 _ (HT.out.ext e_w_w2) HS.out HW.out (HP.out.ext e_w_w2)).mono ?_
    rintro _ w3 ⟨rfl, hx_⟩
    have e_w_w3 := e_w_w2.trans hx_
    have e_W0_w3 := e_W0_w2.trans hx_
    clear hx_
    go_wp2_with fail
    refine (flPreds_c p f b A0 A1 c0 c1 _ (HT.out.ext e_w_w3) HS.out HW.out (HP.out.ext e_w_w3)).mono ?_
    rintro _ w4 ⟨v4, rfl, hv4, hx_⟩
    have e_w_w4 := e_w_w3.trans hx_
    have e_W0_w4 := e_W0_w3.trans hx_
    obtain ⟨A4, c4, rfl, _, hC4⟩ := hv4.reads
    have HC4 := Aside0.mk hC4
    clear hv4 hx_ hC4
    by_cases h1 : rlE p f a b = 0
    case neg =>
      have hne : (rlE p f a b != 0) = true := by simp [h1]
      rw [rlB_no h1]
      generalize rlE p f a b = e1 at *
      generalize flE p f b = e2 at *
      clear h1
      go_wp2
      go_ret
      exact ⟨rfl, e_w_w4⟩
    have h2 : flE p f b = 0 := (domE_zero (rlE_zero h1).2).1
    have HDA := Aside0.mk (dahead h1)
    have hpl := prP_ln HS.out h2
    rw [h1, h2]
    clear h1 h2
    generalize prP p f b = l at *
    go_wp2
    go_loopw [14, 15] (fun s i wr => ∃ k : Nat, k ≤ l.length ∧ i = .int .i64 k ∧ s = .bool (allB p f a (l.take k)) ∧ Ext w4 wr) (fun _ i _ => l.length - (intOf i).toNat)
    case atStart => exact ⟨0, by omega, rfl, by simp [allB], Ext.refl _⟩
    case round =>
      obtain ⟨k, hk, rfl, rfl, hx⟩ := hrel
      have e_w_wr := e_w_w4.trans hx
      have e_W0_wr := e_W0_w4.trans hx
      by_cases hlt : k < l.length
      case pos =>
        obtain ⟨ad, he_, a0'⟩ := at_int HC4.out k hlt
        subst he_
        have a0 : ∀ W, Ext w4 W → W.cell? (ad.add k) = some (.int .i64 l[k]) := a0'
        have HSU := Aside0.mk (allB_succ p f a l k hlt)
        generalize l[k] = x at *
        clear a0'
        generalize hab : allB p f a (l.take k) = ab at *
        have HAB := Aside0.mk hab
        clear hab
        go_upto_region 12 with (fail)
        go_region_held3 (fun W => Ext W0 W ∧ Ext w4 W) (first | assumption | exact ⟨Ext.drew e_W0_wr, Ext.drew hx⟩ | exact ⟨by assumption, by assumption⟩) ((go_at_call 34; refine (domNext_c p f x A0 A1 c0 c1 _ (HT.out.ext (e_w_W0.trans (Ext.drew e_W0_wr))) HS.out HW.out (HP.out.ext (e_w_W0.trans (Ext.drew e_W0_wr)))).mono ?_; rintro _ w5 ⟨rfl, hx5⟩; have e_W0_w5 : Ext W0 w5 := Ext.trans (Ext.drew e_W0_wr) hx5; have e_w4_w5 : Ext w4 w5 := Ext.trans (Ext.drew hx) hx5; clear hx5))
        have e_w_w5 : Ext w w5 := e_w_W0.trans e_W0_w5
        generalize wr.drew = wd at *
        cases ab with
        | false =>
          have HQ := Aside0.mk (show allB p f a (l.take (k + 1)) = false by rw [HSU.out]; rfl)
          clear HSU
          generalize domE p f x = e at *
          generalize dnP p f x = n at *
          go_wp2
          go_quiet (fail)
          go_wp2
          go_roundw
          case rel => exact ⟨k + 1, by omega, by go_num, by rw [HQ.out], (by repeat (first | assumption | exact Ext.refl _ | exact Ext.of_xt _ _ | apply Ext.alloc | apply Ext.drewN | apply Ext.drew))⟩
          case measure => simp [intOf]; omega
        | true =>
          by_cases hd : domE p f x = 0
          case neg =>
            have hdn : (domE p f x != 0) = true := by simp [hd]
            have HQ := Aside0.mk (show allB p f a (l.take (k + 1)) = true by rw [HSU.out, hdn]; rfl)
            clear HSU hd
            generalize domE p f x = e at *
            generalize dnP p f x = n at *
            go_wp2
            go_quiet (fail)
            go_wp2
            go_roundw
            case rel => exact ⟨k + 1, by omega, by go_num, by rw [HQ.out], (by repeat (first | assumption | exact Ext.refl _ | exact Ext.of_xt _ _ | apply Ext.alloc | apply Ext.drewN | apply Ext.drew))⟩
            case measure => simp [intOf]; omega
          case pos =>
            have HQ := Aside0.mk (show allB p f a (l.take (k + 1)) = rlB p f a x by rw [HSU.out, hd]; rfl)
            rw [hd]
            clear HSU hd
            generalize dnP p f x = n at *
            have HCR : Aside0 (∀ (W : World), Ext w W → Calls Tryd.prog 35 #[vPrg p A0 c0 A1 c1, .int .i64 f, .int .i64 a, .int .i64 x] W fun e w' => e = .returned (.bool (rlB p f a x)) ∧ Ext W w') := ⟨fun W hW => rules10_c p f a x A0 A1 c0 c1 W (HT.out.ext hW) HS.out HW.out (HP.out.ext hW)⟩
            go_wp2
            (refine wp_region_ext (by kernel_rfl) (by kernel_rfl) (Ext.refl _) ?_; (repeat (first | go_big_quiet_skip | (go_big_quiet_want; go_big_quiet_op; first | go_big_quiet_on | (apply Exists.intro; refine ⟨fun xq_ => ?_, ?_⟩; (focus ((refine quiet_call (HCR.out _ (by first | exact e_w_w5.trans (Ext.drew (Ext.of_xt _ _)) | exact e_w_w5.trans (Ext.of_xt _ _)))))); go_big_quiet_on)))); refine wpQuiet_nil ?_; intro w6 hq_; replace hq_ := Ext.of_ex hq_; have e_w_w6 : Ext w w6 := Ext.trans (by repeat (first | assumption | exact Ext.refl _ | exact Ext.of_xt _ _ | apply Ext.alloc | apply Ext.drewN | apply Ext.drew)) hq_; have e_w4_w6 : Ext w4 w6 := Ext.trans (by repeat (first | assumption | exact Ext.refl _ | exact Ext.of_xt _ _ | apply Ext.alloc | apply Ext.drewN | apply Ext.drew)) hq_; have e_w5_w6 : Ext w5 w6 := Ext.trans (by repeat (first | assumption | exact Ext.refl _ | exact Ext.of_xt _ _ | apply Ext.alloc | apply Ext.drewN | apply Ext.drew)) hq_; clear hq_)
            go_wp2
            go_roundw
            case rel => exact ⟨k + 1, by omega, by go_num, by rw [HQ.out], (by repeat (first | assumption | exact Ext.refl _ | exact Ext.of_xt _ _ | apply Ext.alloc | apply Ext.drewN | apply Ext.drew))⟩
            case measure => simp [intOf]; omega
      case neg =>
        obtain rfl : k = l.length := by omega
        rw [List.take_length]
        obtain ⟨hd1, hd2⟩ := HDA.out
        by_cases hb : b = 0 ∨ a = b
        case pos =>
          have h3 := hd1 hb
          have HR := Aside0.mk h3
          clear hd1 hd2 h3
          rw [HR.out]
          generalize allB p f a l = r at *
          by_cases hab : a = b
          case pos =>
            have hq1 : decide (a = b) = true := decide_eq_true hab
            have hq2 : (a == b) = true := by simp [hab]
            rw [hq1]
            clear hb hab HDA HR hq1
            by_cases h0 : b = 0
            case pos =>
              have hq3 : (b == 0) = true := by simp [h0]
              clear h0
              go_wp2
              go_ret
              exact ⟨rfl, e_w_wr⟩
            case neg =>
              have hq3 : (b == 0) = false := by simp [h0]
              clear h0
              go_wp2
              go_ret
              exact ⟨rfl, e_w_wr⟩
          case neg =>
            have hq1 : decide (a = b) = false := decide_eq_false hab
            have hq2 : (a == b) = false := by simp [hab]
            have hq3 : (b == 0) = true := by
              rcases hb with h | h
              · simp [h]
              · exact absurd h hab
            rw [hq1]
            clear hb hab HDA HR hq1
            go_wp2
            go_ret
            exact ⟨rfl, e_w_wr⟩
        case neg =>
          have h3 := hd2 hb
          have HR := Aside0.mk h3
          rw [HR.out]
          clear hd1 hd2 h3 HDA HR
          have hb0 : (b == 0) = false := by simp; omega
          have hab0 : (a == b) = false := by simp; omega
          generalize allB p f a l = r at *
          clear hb
          cases r
          all_goals go_wp2
          all_goals go_ret
          all_goals exact ⟨rfl, e_w_wr⟩
end Go.Proofs.YtjbnabjjbofhjaaDoor.Fes
