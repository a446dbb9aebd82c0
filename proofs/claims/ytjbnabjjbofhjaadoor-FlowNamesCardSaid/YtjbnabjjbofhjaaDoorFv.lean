/- FlowBoth: a block goes to another one just if it is among those ahead of that; and what is reached is block 0, and what those go to that are. -/
import Derived.Test.YtjbnabjjbofhjaaDoorFs
import Derived.Test.YtjbnabjjbofhjaaDoorFl8
set_option linter.unusedVariables false
set_option linter.unusedSimpArgs false
namespace Go.Proofs.YtjbnabjjbofhjaaDoor.Fes
open Go.RowKit Go.Proofs.YtjbnabjjbofhjaaDoorW.PrintWords

theorem among9_v (xs : List Int) (y : Int) (A : Option Addr) (c : Nat) (w : World) (hA : Kd.C (Kd.int .i64) w A xs.length xs) (n : Nat) (hn : xs.length = n) (b : Bool) (hb : xs.contains y = b) :
    Calls Tryd.prog 32 #[.slice A n c, .int .i64 y] w fun e w' => e = .returned (.bool b) ∧ Ext w w' := by
  subst hn hb
  refine (among9_c xs y A c w hA).mono ?_
  rintro _ _ ⟨rfl, rfl⟩
  exact ⟨rfl, Ext.refl _⟩
theorem among9_e (xs : List Int) (y : Int) (A : Option Addr) (c : Nat) (w : World) (hA : Kd.C (Kd.int .i64) w A xs.length xs) (b : Bool) (hb : xs.contains y = b) :
    Calls Tryd.prog 32 #[.slice A xs.length c, .int .i64 y] w fun e w' => e = .returned (.bool b) ∧ w = w' := by
  subst hb
  exact among9_c xs y A c w hA
def sumB (re ah : List Int) (b : Int) (k : Nat) : Bool := (b == 0) || (ah.take k).any fun x => re.contains x
theorem sumB_succ {re ah : List Int} {b : Int} {k : Nat} (h : k < ah.length) : sumB re ah b (k + 1) = (sumB re ah b k || re.contains ah[k]) := by
  unfold sumB
  rw [take_snoc _ _ h, List.any_append]
  simp only [List.any_cons, List.any_nil, Bool.or_false, Bool.or_assoc]
theorem prP_len {p : Prg} {f b : Int} (hs : SmP p) (h : flE p f b = 0) : (prP p f b).length ≤ 20 := by
  obtain ⟨_, hf, _⟩ := flE_zero h
  have h1 := blocks_le hs hf.1 hf.2
  unfold prP
  rw [if_pos h]
  exact Nat.le_trans (prL_len _ _ _) h1

set_option maxRecDepth 100000 in
set_option maxHeartbeats 8000000 in
theorem flowBoth_c (p : Prg) (f a b : Int) (A0 A1 : Option Addr) (c0 c1 : Nat) (w : World) (hT : Tab w) (hw : WfP p) (hz : ∀ f ∈ p.funcs, ∀ b ∈ f.blocks, b.ins.length ≤ 140737488351232) (hp : AtP w p A0 A1) :
    Calls Tryd.prog 6 #[vPrg p A0 c0 A1 c1, .int .i64 f, .int .i64 a, .int .i64 b] w fun e w' => e = .returned (.bool true) ∧ Ext w w' := by
  have HT := Aside0.mk hT
  have HP := Aside0.mk hp
  have HW := Aside0.mk hw
  have HZ := Aside0.mk hz
  clear hT hp hw hz
  unfold vPrg
  go_enter Tryd.func6, Tryd.ntmps6
  go_upto_region 1 with (fail)
  (have e_w_W0 : Ext w (w.alloc (.cells #[.slice A0 p.types.length c0, .slice A1 p.funcs.length c1] 25)) := (by repeat (first | assumption | exact Ext.refl _ | exact Ext.of_xt _ _ | apply Ext.alloc | apply Ext.drewN | apply Ext.drew)); have b_W0_0_0 := stays (w := w.alloc (.cells #[.slice A0 p.types.length c0, .slice A1 p.funcs.length c1] 25)) (a := ⟨w.heap.size, 0, none⟩) (by first | (go_simp; rfl) | rfl); have b_W0_0_1 := stays (w := w.alloc (.cells #[.slice A0 p.types.length c0, .slice A1 p.funcs.length c1] 25)) (a := ⟨w.heap.size, 1, none⟩) (by first | (go_simp; rfl) | rfl); generalize w.alloc (.cells #[.slice A0 p.types.length c0, .slice A1 p.funcs.length c1] 25) = W0 at e_w_W0 b_W0_0_0 b_W0_0_1 ⊢)
  go_wp2_with fail
  refine (alive9_c _ (HT.out.ext (by repeat (first | assumption | exact Ext.refl _ | exact Ext.of_xt _ _ | apply Ext.alloc | apply Ext.drewN | apply Ext.drew)))).mono ?_
  (rintro _ w1 ⟨rfl, hx_⟩; have e_w_w1 : Ext w w1 := Ext.trans (by repeat (first | assumption | exact Ext.refl _ | exact Ext.of_xt _ _ | apply Ext.alloc | apply Ext.drewN | apply Ext.drew)) hx_; have e_W0_w1 : Ext W0 w1 := Ext.trans (by repeat (first | assumption | exact Ext.refl _ | exact Ext.of_xt _ _ | apply Ext.alloc | apply Ext.drewN | apply Ext.drew)) hx_; clear hx_)
  go_wp2_with fail
  refine (great_c p 300 A0 A1 c0 c1 _ (by omega) (by omega) HZ.out (HP.out.ext (by repeat (first | assumption | exact Ext.refl _ | exact Ext.of_xt _ _ | apply Ext.alloc | apply Ext.drewN | apply Ext.drew)))).mono ?_
  rintro _ w2 ⟨gb, rfl, hsm, hx_⟩
  have e_w_w2 := e_w_w1.trans hx_
  have e_W0_w2 := e_W0_w1.trans hx_
  have HSM := Aside0.mk hsm
  clear hsm hx_
  cases gb with
  | true =>
    go_wp2
    go_ret
    exact ⟨rfl, e_w_w2⟩
  | false =>
    have HS := Aside0.mk (HSM.out rfl)
    clear HSM
    go_wp2_with fail
    refine (flNext_c _ p f a A0 A1 c0 c1 (HT.out.ext e_w_w2) HS.out HW.out (HP.out.ext e_w_w2)).mono ?_
    rintro _ w3 ⟨v3, rfl, hv3, hx_⟩
    have e_w_w3 := e_w_w2.trans hx_
    have e_W0_w3 := e_W0_w2.trans hx_
    obtain ⟨A3, c3, rfl, _, hC3⟩ := hv3.reads
    have HC3 := Aside0.mk hC3
    clear hv3 hx_ hC3
    go_wp2_with fail
    refine (flPreds_c p f b A0 A1 c0 c1 _ (HT.out.ext e_w_w3) HS.out HW.out (HP.out.ext e_w_w3)).mono ?_
    rintro _ w4 ⟨v4, rfl, hv4, hx_⟩
    have e_w_w4 := e_w_w3.trans hx_
    have e_W0_w4 := e_W0_w3.trans hx_
    have HC3' := Aside0.mk (hx_.C HC3.out)
    obtain ⟨A4, c4, rfl, _, hC4⟩ := hv4.reads
    have HC4 := Aside0.mk hC4
    clear hv4 hx_ hC4 HC3
    go_wp2_with fail
    refine (flReach_c p f A0 A1 c0 c1 _ (HT.out.ext e_w_w4) HS.out HW.out (HP.out.ext e_w_w4)).mono ?_
    rintro _ w5 ⟨v5, rfl, hv5, hx_⟩
    have e_w_w5 := e_w_w4.trans hx_
    have e_W0_w5 := e_W0_w4.trans hx_
    have HC3 := Aside0.mk (hx_.C HC3'.out)
    have HC4' := Aside0.mk (hx_.C HC4.out)
    obtain ⟨A5, c5, rfl, _, hC5⟩ := hv5.reads
    have HC5 := Aside0.mk hC5
    clear hv5 hx_ hC5 HC4 HC3'
    by_cases h1 : flE p f a = 0
    case neg =>
      have hne : (flE p f a != 0) = true := by simp [h1]
      generalize flE p f a = e1 at *
      generalize flE p f b = e2 at *
      generalize flE p f 0 = e3 at *
      clear h1
      go_wp2
      go_ret
      exact ⟨rfl, e_w_w5⟩
    by_cases h2 : flE p f b = 0
    case neg =>
      rw [h1]
      have hne : (flE p f b != 0) = true := by simp [h2]
      generalize flE p f b = e2 at *
      generalize flE p f 0 = e3 at *
      clear h2
      go_wp2
      go_ret
      exact ⟨rfl, e_w_w5⟩
    have h3 : flE p f 0 = 0 := by
      obtain ⟨_, _, _, _⟩ := flE_zero h1
      exact flE_any h1 (by omega) (by omega)
    have hB := both_pure h1 h2
    have hl := prP_len HS.out h2
    rw [h1, h2, h3]
    obtain ⟨hal, hr0, hgo, hfrom⟩ := hB
    have HFR := Aside0.mk (show (reP p f).contains b = sumB (reP p f) (prP p f b) b (prP p f b).length by rw [hfrom]; unfold sumB; rw [List.take_length])
    clear h1 h2 h3 hfrom
    generalize reP p f = re at *
    generalize nxP p f a = tl at *
    generalize prP p f b = ah at *
    have HR0 := Aside0.mk hr0
    clear hr0
    cases hra : re.contains a with
    | false =>
      have HRA := Aside0.mk hra
      clear hra hgo
      cases htb : tl.contains b with
      | false =>
        have HAA := Aside0.mk (hal.symm.trans htb)
        have HTB := Aside0.mk htb
        clear hal htb
        go_wp2_with fail
        refine (among9_e re a A5 c5 _ HC5.out _ HRA.out).mono ?_
        rintro _ _ ⟨rfl, rfl⟩
        go_wp2_with fail
        refine (among9_e re 0 A5 c5 _ HC5.out _ HR0.out).mono ?_
        rintro _ _ ⟨rfl, rfl⟩
        go_wp2_with fail
        refine (among9_e tl b A3 c3 _ HC3.out _ HTB.out).mono ?_
        rintro _ _ ⟨rfl, rfl⟩
        go_wp2_with fail
        refine (among9_e ah a A4 c4 _ HC4'.out _ HAA.out).mono ?_
        rintro _ _ ⟨rfl, rfl⟩
        clear HC3 HRA HTB HAA HR0
        go_wp2
        go_loopw [16, 17] (fun s i wr => ∃ k : Nat, k ≤ ah.length ∧ i = .int .i64 k ∧ s = .bool (sumB re ah b k) ∧ Ext w5 wr) (fun _ i _ => ah.length - (intOf i).toNat)
        case atStart => exact ⟨0, by omega, rfl, by simp [sumB], Ext.refl _⟩
        case round =>
          obtain ⟨k, hk, rfl, rfl, hx⟩ := hrel
          by_cases hlt : k < ah.length
          case pos =>
            obtain ⟨ad, he_, a0⟩ := at_int (hx.C HC4'.out) k hlt
            subst he_
            have HSU := Aside0.mk (sumB_succ (re := re) (b := b) hlt)
            generalize ah[k] = x at *
            have e_w_wr := e_w_w5.trans hx
            cases hcb : sumB re ah b k with
            | true =>
              have HQ := Aside0.mk (show sumB re ah b (k + 1) = true by rw [HSU.out, hcb]; rfl)
              clear hcb
              go_wp2
              go_roundw
              case rel => exact ⟨k + 1, by omega, by go_num, by rw [HQ.out], (by repeat (first | assumption | exact Ext.refl _ | exact Ext.of_xt _ _ | apply Ext.alloc | apply Ext.drewN | apply Ext.drew))⟩
              case measure => simp [intOf]; omega
            | false =>
              have HQ := Aside0.mk (show re.contains x = sumB re ah b (k + 1) by rw [HSU.out, hcb]; rfl)
              clear hcb
              have HC5x := Aside0.mk (hx.C HC5.out)
              go_wp2_with fail
              refine (among9_e re x A5 c5 _ HC5x.out _ HQ.out).mono ?_
              rintro _ _ ⟨rfl, rfl⟩
              go_wp2
              go_roundw
              case rel => exact ⟨k + 1, by omega, by go_num, rfl, (by repeat (first | assumption | exact Ext.refl _ | exact Ext.of_xt _ _ | apply Ext.alloc | apply Ext.drewN | apply Ext.drew))⟩
              case measure => simp [intOf]; omega
          case neg =>
            obtain rfl : k = ah.length := by omega
            have e_w_wr := e_w_w5.trans hx
            have HC5' := Aside0.mk (hx.C HC5.out)
            generalize sumB re ah b ah.length = sb at *
            go_wp2_with fail
            refine (among9_e re b A5 c5 _ HC5'.out _ HFR.out).mono ?_
            rintro _ _ ⟨rfl, rfl⟩
            cases sb
            all_goals go_wp2
            all_goals go_ret
            all_goals exact ⟨rfl, e_w_wr⟩
      | true =>
        have HAA := Aside0.mk (hal.symm.trans htb)
        have HTB := Aside0.mk htb
        clear hal htb
        go_wp2_with fail
        refine (among9_e re a A5 c5 _ HC5.out _ HRA.out).mono ?_
        rintro _ _ ⟨rfl, rfl⟩
        go_wp2_with fail
        refine (among9_e re 0 A5 c5 _ HC5.out _ HR0.out).mono ?_
        rintro _ _ ⟨rfl, rfl⟩
        go_wp2_with fail
        refine (among9_e tl b A3 c3 _ HC3.out _ HTB.out).mono ?_
        rintro _ _ ⟨rfl, rfl⟩
        go_wp2_with fail
        refine (among9_e ah a A4 c4 _ HC4'.out _ HAA.out).mono ?_
        rintro _ _ ⟨rfl, rfl⟩
        clear HC3 HRA HTB HAA HR0
        go_wp2
        go_loopw [16, 17] (fun s i wr => ∃ k : Nat, k ≤ ah.length ∧ i = .int .i64 k ∧ s = .bool (sumB re ah b k) ∧ Ext w5 wr) (fun _ i _ => ah.length - (intOf i).toNat)
        case atStart => exact ⟨0, by omega, rfl, by simp [sumB], Ext.refl _⟩
        case round =>
          obtain ⟨k, hk, rfl, rfl, hx⟩ := hrel
          by_cases hlt : k < ah.length
          case pos =>
            obtain ⟨ad, he_, a0⟩ := at_int (hx.C HC4'.out) k hlt
            subst he_
            have HSU := Aside0.mk (sumB_succ (re := re) (b := b) hlt)
            generalize ah[k] = x at *
            have e_w_wr := e_w_w5.trans hx
            cases hcb : sumB re ah b k with
            | true =>
              have HQ := Aside0.mk (show sumB re ah b (k + 1) = true by rw [HSU.out, hcb]; rfl)
              clear hcb
              go_wp2
              go_roundw
              case rel => exact ⟨k + 1, by omega, by go_num, by rw [HQ.out], (by repeat (first | assumption | exact Ext.refl _ | exact Ext.of_xt _ _ | apply Ext.alloc | apply Ext.drewN | apply Ext.drew))⟩
              case measure => simp [intOf]; omega
            | false =>
              have HQ := Aside0.mk (show re.contains x = sumB re ah b (k + 1) by rw [HSU.out, hcb]; rfl)
              clear hcb
              have HC5x := Aside0.mk (hx.C HC5.out)
              go_wp2_with fail
              refine (among9_e re x A5 c5 _ HC5x.out _ HQ.out).mono ?_
              rintro _ _ ⟨rfl, rfl⟩
              go_wp2
              go_roundw
              case rel => exact ⟨k + 1, by omega, by go_num, rfl, (by repeat (first | assumption | exact Ext.refl _ | exact Ext.of_xt _ _ | apply Ext.alloc | apply Ext.drewN | apply Ext.drew))⟩
              case measure => simp [intOf]; omega
          case neg =>
            obtain rfl : k = ah.length := by omega
            have e_w_wr := e_w_w5.trans hx
            have HC5' := Aside0.mk (hx.C HC5.out)
            generalize sumB re ah b ah.length = sb at *
            go_wp2_with fail
            refine (among9_e re b A5 c5 _ HC5'.out _ HFR.out).mono ?_
            rintro _ _ ⟨rfl, rfl⟩
            cases sb
            all_goals go_wp2
            all_goals go_ret
            all_goals exact ⟨rfl, e_w_wr⟩
    | true =>
      have HRA := Aside0.mk hra
      cases htb : tl.contains b with
      | false =>
        have HAA := Aside0.mk (hal.symm.trans htb)
        have HTB := Aside0.mk htb
        clear hal htb hra hgo
        go_wp2_with fail
        refine (among9_e re a A5 c5 _ HC5.out _ HRA.out).mono ?_
        rintro _ _ ⟨rfl, rfl⟩
        go_wp2_with fail
        refine (among9_e tl b A3 c3 _ HC3.out _ HTB.out).mono ?_
        rintro _ _ ⟨rfl, rfl⟩
        go_wp2_with fail
        refine (among9_e re 0 A5 c5 _ HC5.out _ HR0.out).mono ?_
        rintro _ _ ⟨rfl, rfl⟩
        go_wp2_with fail
        refine (among9_e tl b A3 c3 _ HC3.out _ HTB.out).mono ?_
        rintro _ _ ⟨rfl, rfl⟩
        go_wp2_with fail
        refine (among9_e ah a A4 c4 _ HC4'.out _ HAA.out).mono ?_
        rintro _ _ ⟨rfl, rfl⟩
        clear HC3 HRA HTB HAA HR0
        go_wp2
        go_loopw [16, 17] (fun s i wr => ∃ k : Nat, k ≤ ah.length ∧ i = .int .i64 k ∧ s = .bool (sumB re ah b k) ∧ Ext w5 wr) (fun _ i _ => ah.length - (intOf i).toNat)
        case atStart => exact ⟨0, by omega, rfl, by simp [sumB], Ext.refl _⟩
        case round =>
          obtain ⟨k, hk, rfl, rfl, hx⟩ := hrel
          by_cases hlt : k < ah.length
          case pos =>
            obtain ⟨ad, he_, a0⟩ := at_int (hx.C HC4'.out) k hlt
            subst he_
            have HSU := Aside0.mk (sumB_succ (re := re) (b := b) hlt)
            generalize ah[k] = x at *
            have e_w_wr := e_w_w5.trans hx
            cases hcb : sumB re ah b k with
            | true =>
              have HQ := Aside0.mk (show sumB re ah b (k + 1) = true by rw [HSU.out, hcb]; rfl)
              clear hcb
              go_wp2
              go_roundw
              case rel => exact ⟨k + 1, by omega, by go_num, by rw [HQ.out], (by repeat (first | assumption | exact Ext.refl _ | exact Ext.of_xt _ _ | apply Ext.alloc | apply Ext.drewN | apply Ext.drew))⟩
              case measure => simp [intOf]; omega
            | false =>
              have HQ := Aside0.mk (show re.contains x = sumB re ah b (k + 1) by rw [HSU.out, hcb]; rfl)
              clear hcb
              have HC5x := Aside0.mk (hx.C HC5.out)
              go_wp2_with fail
              refine (among9_e re x A5 c5 _ HC5x.out _ HQ.out).mono ?_
              rintro _ _ ⟨rfl, rfl⟩
              go_wp2
              go_roundw
              case rel => exact ⟨k + 1, by omega, by go_num, rfl, (by repeat (first | assumption | exact Ext.refl _ | exact Ext.of_xt _ _ | apply Ext.alloc | apply Ext.drewN | apply Ext.drew))⟩
              case measure => simp [intOf]; omega
          case neg =>
            obtain rfl : k = ah.length := by omega
            have e_w_wr := e_w_w5.trans hx
            have HC5' := Aside0.mk (hx.C HC5.out)
            generalize sumB re ah b ah.length = sb at *
            go_wp2_with fail
            refine (among9_e re b A5 c5 _ HC5'.out _ HFR.out).mono ?_
            rintro _ _ ⟨rfl, rfl⟩
            cases sb
            all_goals go_wp2
            all_goals go_ret
            all_goals exact ⟨rfl, e_w_wr⟩
      | true =>
        have HAA := Aside0.mk (hal.symm.trans htb)
        have HTB := Aside0.mk htb
        have HRB := Aside0.mk (show re.contains b = true by
          rw [hra, htb] at hgo
          cases h : re.contains b with
          | true => rfl
          | false => rw [h] at hgo; exact absurd hgo (by decide))
        clear hal htb hra hgo
        go_wp2_with fail
        refine (among9_e re a A5 c5 _ HC5.out _ HRA.out).mono ?_
        rintro _ _ ⟨rfl, rfl⟩
        go_wp2_with fail
        refine (among9_e tl b A3 c3 _ HC3.out _ HTB.out).mono ?_
        rintro _ _ ⟨rfl, rfl⟩
        go_wp2_with fail
        refine (among9_e re b A5 c5 _ HC5.out _ HRB.out).mono ?_
        rintro _ _ ⟨rfl, rfl⟩
        go_wp2_with fail
        refine (among9_e re 0 A5 c5 _ HC5.out _ HR0.out).mono ?_
        rintro _ _ ⟨rfl, rfl⟩
        go_wp2_with fail
        refine (among9_e tl b A3 c3 _ HC3.out _ HTB.out).mono ?_
        rintro _ _ ⟨rfl, rfl⟩
        go_wp2_with fail
        refine (among9_e ah a A4 c4 _ HC4'.out _ HAA.out).mono ?_
        rintro _ _ ⟨rfl, rfl⟩
        clear HC3 HRA HTB HAA HR0
        go_wp2
        go_loopw [16, 17] (fun s i wr => ∃ k : Nat, k ≤ ah.length ∧ i = .int .i64 k ∧ s = .bool (sumB re ah b k) ∧ Ext w5 wr) (fun _ i _ => ah.length - (intOf i).toNat)
        case atStart => exact ⟨0, by omega, rfl, by simp [sumB], Ext.refl _⟩
        case round =>
          obtain ⟨k, hk, rfl, rfl, hx⟩ := hrel
          by_cases hlt : k < ah.length
          case pos =>
            obtain ⟨ad, he_, a0⟩ := at_int (hx.C HC4'.out) k hlt
            subst he_
            have HSU := Aside0.mk (sumB_succ (re := re) (b := b) hlt)
            generalize ah[k] = x at *
            have e_w_wr := e_w_w5.trans hx
            cases hcb : sumB re ah b k with
            | true =>
              have HQ := Aside0.mk (show sumB re ah b (k + 1) = true by rw [HSU.out, hcb]; rfl)
              clear hcb
              go_wp2
              go_roundw
              case rel => exact ⟨k + 1, by omega, by go_num, by rw [HQ.out], (by repeat (first | assumption | exact Ext.refl _ | exact Ext.of_xt _ _ | apply Ext.alloc | apply Ext.drewN | apply Ext.drew))⟩
              case measure => simp [intOf]; omega
            | false =>
              have HQ := Aside0.mk (show re.contains x = sumB re ah b (k + 1) by rw [HSU.out, hcb]; rfl)
              clear hcb
              have HC5x := Aside0.mk (hx.C HC5.out)
              go_wp2_with fail
              refine (among9_e re x A5 c5 _ HC5x.out _ HQ.out).mono ?_
              rintro _ _ ⟨rfl, rfl⟩
              go_wp2
              go_roundw
              case rel => exact ⟨k + 1, by omega, by go_num, rfl, (by repeat (first | assumption | exact Ext.refl _ | exact Ext.of_xt _ _ | apply Ext.alloc | apply Ext.drewN | apply Ext.drew))⟩
              case measure => simp [intOf]; omega
          case neg =>
            obtain rfl : k = ah.length := by omega
            have e_w_wr := e_w_w5.trans hx
            have HC5' := Aside0.mk (hx.C HC5.out)
            generalize sumB re ah b ah.length = sb at *
            go_wp2_with fail
            refine (among9_e re b A5 c5 _ HC5'.out _ HFR.out).mono ?_
            rintro _ _ ⟨rfl, rfl⟩
            cases sb
            all_goals go_wp2
            all_goals go_ret
            all_goals exact ⟨rfl, e_w_wr⟩
end Go.Proofs.YtjbnabjjbofhjaaDoor.Fes
