/- FlowOrder: the order has each block that is reached, once, block 0 first; and where one goes to another one that cannot come back to it, it stands ahead of that. -/
import Derived.Test.YtjbnabjjbofhjaaDoorFv
set_option linter.unusedVariables false
set_option linter.unusedSimpArgs false
namespace Go.Proofs.YtjbnabjjbofhjaaDoor.Fes
open Go.RowKit Go.Proofs.YtjbnabjjbofhjaaDoorW.PrintWords

set_option maxRecDepth 100000 in
set_option maxHeartbeats 8000000 in
theorem flowOrderLaw_c (p : Prg) (f i k : Int) (A0 A1 : Option Addr) (c0 c1 : Nat) (w : World) (hT : Tab w) (hw : WfP p) (hz : ∀ f ∈ p.funcs, ∀ b ∈ f.blocks, b.ins.length ≤ 140737488351232) (hp : AtP w p A0 A1) :
    Calls Tryd.prog 7 #[vPrg p A0 c0 A1 c1, .int .i64 f, .int .i64 i, .int .i64 k] w fun e w' => e = .returned (.bool true) ∧ Ext w w' := by
  have HT := Aside0.mk hT
  have HP := Aside0.mk hp
  have HW := Aside0.mk hw
  have HZ := Aside0.mk hz
  clear hT hp hw hz
  unfold vPrg
  go_enter Tryd.func7, Tryd.ntmps7
  go_upto_region 1 with (fail)
  (have e_w_W0 : Ext w (w.alloc (.cells #[.slice A0 p.types.length c0, .slice A1 p.funcs.length c1] 25)) := (by repeat (first | assumption | exact Ext.refl _ | exact Ext.of_xt _ _ | apply Ext.alloc | apply Ext.drewN | apply Ext.drew)); have b_W0_0_0 := stays (w := w.alloc (.cells #[.slice A0 p.types.length c0, .slice A1 p.funcs.length c1] 25)) (a := ⟨w.heap.size, 0, none⟩) (by first | (go_simp; rfl) | rfl); have b_W0_0_1 := stays (w := w.alloc (.cells #[.slice A0 p.types.length c0, .slice A1 p.funcs.length c1] 25)) (a := ⟨w.heap.size, 1, none⟩) (by first | (go_simp; rfl) | rfl); generalize w.alloc (.cells #[.slice A0 p.types.length c0, .slice A1 p.funcs.length c1] 25) = W0 at e_w_W0 b_W0_0_0 b_W0_0_1 ⊢)
  go_wp2_with fail
  refine (alive9_c _ (HT.out.ext (by repeat (first | assumption | exact Ext.refl _ | exact Ext.of_xt _ _ | apply Ext.alloc | apply Ext.drewN | apply Ext.drew)))).mono ?_
  (rintro _ w1 ⟨rfl, hx_⟩; have e_w_w1 : Ext w w1 := Ext.trans (by repeat (first | assumption | exact Ext.refl _ | exact Ext.of_xt _ _ | apply Ext.alloc | apply Ext.drewN | apply Ext.drew)) hx_; have e_W0_w1 : Ext W0 w1 := Ext.trans (by repeat (first | assumption | exact Ext.refl _ | exact Ext.of_xt _ _ | apply Ext.alloc | apply Ext.drewN | apply Ext.drew)) hx_; clear hx_)
  go_wp2_with fail
  refine (great_c p 300 A0 A1 c0 c1 _ (by omega) (by omega) HZ.out (HP.out.ext (by repeat (first | assumption | exact Ext.refl _ | exact Ext.of_xt _ _ | apply Ext.alloc | apply Ext.drewN | apply Ext.drew)))).mono ?_
  rintro _ w2 ⟨gb, rfl, hsm, hx_⟩
  have e_w_w2 := e_w_w1.trans hx_
  have e_W0_w2 := e_W0_w1.trans hx_
  have HSM := Aside0.mk hsm
  clear hsm hx_
  cases gb with
  | true =>
    go_wp2
    go_ret
    exact ⟨rfl, e_w_w2⟩
  | false =>
    have HS := Aside0.mk (HSM.out rfl)
    clear HSM
    go_wp2_with fail
    refine (flOrder_c p f A0 A1 c0 c1 _ (HT.out.ext e_w_w2) HS.out HW.out (HP.out.ext e_w_w2)).mono ?_
    rintro _ w3 ⟨v3, rfl, hv3, hx_⟩
    have e_w_w3 := e_w_w2.trans hx_
    have e_W0_w3 := e_W0_w2.trans hx_
    obtain ⟨A3, c3, rfl, _, hC3⟩ := hv3.reads
    have HC3' := Aside0.mk hC3
    clear hv3 hx_ hC3
    go_wp2_with fail
    refine (flReach_c p f A0 A1 c0 c1 _ (HT.out.ext e_w_w3) HS.out HW.out (HP.out.ext e_w_w3)).mono ?_
    rintro _ w4 ⟨v4, rfl, hv4, hx_⟩
    have e_w_w4 := e_w_w3.trans hx_
    have e_W0_w4 := e_W0_w3.trans hx_
    have HC3 := Aside0.mk (hx_.C HC3'.out)
    obtain ⟨A4, c4, rfl, _, hC4⟩ := hv4.reads
    have HC4 := Aside0.mk hC4
    clear hv4 hx_ hC4 HC3'
    by_cases h0 : flE p f 0 = 0
    case neg =>
      have hne : (flE p f 0 != 0) = true := by simp [h0]
      have hl : (orP p f).length = 0 := by unfold orP; rw [if_neg h0]; rfl
      rw [hl]
      generalize (reP p f).length = rl at *
      generalize flE p f 0 = e3 at *
      clear h0 hl HC3 HC4
      go_wp2
      go_ret
      exact ⟨rfl, e_w_w4⟩
    rw [h0]
    have hO := ordl_pure h0
    have HL := Aside0.mk hO
    have hlen := hO.len
    have hpos := hO.pos
    obtain ⟨ad0, he0, a00⟩ := at_int HC3.out 0 hpos
    rw [hO.first hpos] at a00
    have ho20 : (orP p f).length ≤ 20 := by
      obtain ⟨_, hf, _⟩ := flE_zero h0
      have h1 := blocks_le HS.out hf.1 hf.2
      obtain ⟨_, _, _, hb1⟩ := flE_zero h0
      have hin := (flE_edge h0).inside
      unfold orP
      rw [if_pos h0, castL_len]
      exact Nat.le_trans (nodup_le _ _ (orderL_nodup hin (by omega)) (orderL_small hin (by omega))) h1
    subst he0
    clear h0 hO
    have a0z : w4.cell? ad0 = some (.int .i64 0) := by
      have := a00 w4 (Ext.refl _)
      simpa [Addr.add] using this
    have hn0 : ¬ ((reP p f).length = 0) := by omega
    rw [hlen]
    clear a00
    go_wp2
    go_loopw [14] (fun i wr => ∃ n : Nat, n ≤ (reP p f).length ∧ i = .int .i64 n ∧ Ext w4 wr) (fun i _ => (reP p f).length - (intOf i).toNat)
    case atStart => exact ⟨0, by omega, rfl, Ext.refl _⟩
    case round =>
      obtain ⟨n, hn, rfl, hx⟩ := hrel
      have e_w_wr := e_w_w4.trans hx
      have e_W0_wr := e_W0_w4.trans hx
      by_cases hlt : n < (reP p f).length
      case pos =>
        have HH := Aside0.mk (HL.out.has n hlt)
        obtain ⟨ad, he_, a0⟩ := at_int (hx.C HC4.out) n hlt
        subst he_
        have HC3r := Aside0.mk (hx.C HC3.out)
        by_cases hz : n = 0
        · have hg : decide ((n : Int) > 0) = false := by simp [hz]
          have hg2 : decide (0 < n) = false := by simp [hz]
          generalize (reP p f)[n] = x at *
          clear hz
          go_wp2
          (refine wp_region_ext (by kernel_rfl) (by kernel_rfl) (Ext.refl _) ?_; (repeat (first | go_big_quiet_skip | (go_big_quiet_want; go_big_quiet_op; first | go_big_quiet_on | (apply Exists.intro; refine ⟨fun xq_ => ?_, ?_⟩; (focus ((refine quiet_call (among9_v (orP p f) x _ _ _ (Ext.C (by first | exact hx.trans (Ext.drew (Ext.of_xt _ _)) | exact hx.trans (Ext.of_xt _ _)) HC3.out) _ hlen true HH.out)))); go_big_quiet_on)))); refine wpQuiet_nil ?_; intro w5 hq_; replace hq_ := Ext.of_ex hq_; have e_w_w5 : Ext w w5 := Ext.trans (by repeat (first | assumption | exact Ext.refl _ | exact Ext.of_xt _ _ | apply Ext.alloc | apply Ext.drewN | apply Ext.drew)) hq_; have e_wr_w5 : Ext wr w5 := Ext.trans (by repeat (first | assumption | exact Ext.refl _ | exact Ext.of_xt _ _ | apply Ext.alloc | apply Ext.drewN | apply Ext.drew)) hq_; have e_w4_w5 : Ext w4 w5 := Ext.trans (by repeat (first | assumption | exact Ext.refl _ | exact Ext.of_xt _ _ | apply Ext.alloc | apply Ext.drewN | apply Ext.drew)) hq_; have e_W0_w5 : Ext W0 w5 := Ext.trans (by repeat (first | assumption | exact Ext.refl _ | exact Ext.of_xt _ _ | apply Ext.alloc | apply Ext.drewN | apply Ext.drew)) hq_; clear hq_)
          go_wp2
          go_roundw
          case rel => exact ⟨n + 1, by omega, by go_num, (by repeat (first | assumption | exact Ext.refl _ | exact Ext.of_xt _ _ | apply Ext.alloc | apply Ext.drewN | apply Ext.drew))⟩
          case measure => simp [intOf]; omega
        · obtain ⟨m, hm⟩ : ∃ m, n = m + 1 := ⟨n - 1, by omega⟩
          have hr := HL.out.rising m (by omega)
          have a1 : ∀ W, Ext wr W → W.cell? (ad.add m) = some (.int .i64 (reP p f)[m]) := by
            obtain ⟨ad', he_, a1⟩ := at_int (hx.C HC4.out) m (by omega)
            have e : ad' = ad := by simpa using he_.symm
            rw [e] at a1
            exact a1
          have hg : decide ((n : Int) > 0) = true := by simp; omega
          have hg2 : decide (0 < n) = true := by simp; omega
          have hsub : (n : Int) - 1 = (m : Int) := by omega
          have hmn : m < (reP p f).length := by omega
          have hmi : m < 100 := by omega
          have hxy : decide ((reP p f)[m] ≥ (reP p f)[n]) = false := by subst hm; simpa using hr
          have hxy2 : decide ((reP p f)[n] ≤ (reP p f)[m]) = false := hxy
          generalize (reP p f)[n] = x at *
          generalize (reP p f)[m] = y at *
          clear hm hr hz
          go_wp2
          (refine wp_region_ext (by kernel_rfl) (by kernel_rfl) (Ext.refl _) ?_; (repeat (first | go_big_quiet_skip | (go_big_quiet_want; go_big_quiet_op; first | go_big_quiet_on | (apply Exists.intro; refine ⟨fun xq_ => ?_, ?_⟩; (focus ((refine quiet_call (among9_v (orP p f) x _ _ _ (Ext.C (by first | exact hx.trans (Ext.drew (Ext.of_xt _ _)) | exact hx.trans (Ext.of_xt _ _)) HC3.out) _ hlen true HH.out)))); go_big_quiet_on)))); refine wpQuiet_nil ?_; intro w5 hq_; replace hq_ := Ext.of_ex hq_; have e_w_w5 : Ext w w5 := Ext.trans (by repeat (first | assumption | exact Ext.refl _ | exact Ext.of_xt _ _ | apply Ext.alloc | apply Ext.drewN | apply Ext.drew)) hq_; have e_wr_w5 : Ext wr w5 := Ext.trans (by repeat (first | assumption | exact Ext.refl _ | exact Ext.of_xt _ _ | apply Ext.alloc | apply Ext.drewN | apply Ext.drew)) hq_; have e_w4_w5 : Ext w4 w5 := Ext.trans (by repeat (first | assumption | exact Ext.refl _ | exact Ext.of_xt _ _ | apply Ext.alloc | apply Ext.drewN | apply Ext.drew)) hq_; have e_W0_w5 : Ext W0 w5 := Ext.trans (by repeat (first | assumption | exact Ext.refl _ | exact Ext.of_xt _ _ | apply Ext.alloc | apply Ext.drewN | apply Ext.drew)) hq_; clear hq_)
          go_wp2
          go_roundw
          case rel => exact ⟨n + 1, by omega, by go_num, (by repeat (first | assumption | exact Ext.refl _ | exact Ext.of_xt _ _ | apply Ext.alloc | apply Ext.drewN | apply Ext.drew))⟩
          case measure => simp [intOf]; omega
      case neg =>
        have HC3r := Aside0.mk (hx.C HC3.out)
        rw [hlen] at HC3r
        clear a0z hn0 HC4 HC3
        generalize hN : (reP p f).length = N at *
        have HN := Aside0.mk hlen
        clear hN hlen hpos
        by_cases hi : i < 0
        · clear HC3r
          go_wp2
          go_ret
          exact ⟨rfl, e_w_wr⟩
        by_cases hk : k < 0
        · clear HC3r
          go_wp2
          go_ret
          exact ⟨rfl, e_w_wr⟩
        by_cases hi2 : (N : Int) ≤ i
        · clear HC3r
          go_wp2
          go_ret
          exact ⟨rfl, e_w_wr⟩
        by_cases hk2 : (N : Int) ≤ k
        · clear HC3r
          go_wp2
          go_ret
          exact ⟨rfl, e_w_wr⟩
        obtain ⟨i, rfl⟩ := Int.eq_ofNat_of_zero_le (Int.not_lt.1 hi)
        obtain ⟨k, rfl⟩ := Int.eq_ofNat_of_zero_le (Int.not_lt.1 hk)
        have hiN : i < N := by omega
        have hkN : k < N := by omega
        have hil : i < (orP p f).length := by have := HN.out; omega
        have hkl : k < (orP p f).length := by have := HN.out; omega
        have x0 : ∀ W, Ext wr W → W.cell? (ad0.add i) = some (.int .i64 (orP p f)[i]) := by
          have h := HC3r.out
          rw [← HN.out] at h
          obtain ⟨ad', he_, a1⟩ := at_int h i hil
          have e : ad' = ad0 := by simpa using he_.symm
          rw [e] at a1
          exact a1
        have y0 : ∀ W, Ext wr W → W.cell? (ad0.add k) = some (.int .i64 (orP p f)[k]) := by
          have h := HC3r.out
          rw [← HN.out] at h
          obtain ⟨ad', he_, a1⟩ := at_int h k hkl
          have e : ad' = ad0 := by simpa using he_.symm
          rw [e] at a1
          exact a1
        have HXE := Aside0.mk (HL.out.may i hil)
        have HYE := Aside0.mk (HL.out.may k hkl)
        have HAH := Aside0.mk (HL.out.ahead i k hil hkl)
        generalize (orP p f)[i] = x at *
        generalize (orP p f)[k] = y at *
        clear HC3r hil hkl hi hk hi2 hk2 HL HN
        obtain ⟨_, _, hx0, _⟩ := flE_zero HXE.out
        go_upto_region 17 with (fail)
        go_region_held3 (fun W => Ext W0 W ∧ Ext wr W) (first | assumption | exact ⟨Ext.drew e_W0_wr, Ext.drew (Ext.refl _)⟩ | exact ⟨by assumption, by assumption⟩) ((go_at_call 19; refine (flNext_c _ p f x A0 A1 c0 c1 (HT.out.ext (e_w_W0.trans (Ext.drew e_W0_wr))) HS.out HW.out (HP.out.ext (e_w_W0.trans (Ext.drew e_W0_wr)))).mono ?_; rintro _ w5 ⟨v5, rfl, hv5, hx5⟩; have e_W0_w5 : Ext W0 w5 := Ext.trans (Ext.drew e_W0_wr) hx5; have e_wr_w5 : Ext wr w5 := Ext.trans (Ext.drew (Ext.refl _)) hx5; rw [HXE.out]; have HV5 := Aside0.mk hv5; clear hv5 hx5))
        obtain ⟨A5, c5, he5, _, hC5⟩ := HV5.out.reads
        subst he5
        have HC5 := Aside0.mk hC5
        clear hC5 HV5
        have e_w_w5 : Ext w w5 := e_w_W0.trans e_W0_w5
        have e_w5_w5 : Ext w5 w5 := Ext.refl _
        have HCM : Aside0 (∀ (W : World) (b : Bool), Ext w W → (gone (toN (fnP p f).blocks) (fnP p f).blocks.length [y.toNat]).contains x.toNat = b → Calls Tryd.prog 28 #[vPrg p A0 c0 A1 c1, .int .i64 f, .int .i64 y, .int .i64 x] W fun e w' => e = .returned (.bool b) ∧ Ext W w') := ⟨fun W b hW hb => by
          subst hb
          exact comes9_c p f y x A0 A1 c0 c1 W HYE.out hx0 (HT.out.ext hW) HS.out HW.out (HP.out.ext hW)⟩
        generalize wr.drew = wd at *
        cases htb : (nxP p f x).contains y with
        | false =>
          have HTB := Aside0.mk htb
          clear htb HAH
          go_wp2
          (refine wp_region_ext (by kernel_rfl) (by kernel_rfl) (Ext.refl _) ?_; (repeat (first | go_big_quiet_skip | (go_big_quiet_want; go_big_quiet_op; first | go_big_quiet_on | (apply Exists.intro; refine ⟨fun xq_ => ?_, ?_⟩; (focus ((refine quiet_call (among9_v (nxP p f x) y _ _ _ (Ext.C (by first | exact e_w5_w5.trans (Ext.drew (Ext.of_xt _ _)) | exact e_w5_w5.trans (Ext.of_xt _ _)) HC5.out) _ rfl false HTB.out)))); go_big_quiet_on)))); refine wpQuiet_nil ?_; intro w6 hq_; replace hq_ := Ext.of_ex hq_; have e_w_w6 : Ext w w6 := Ext.trans (by repeat (first | assumption | exact Ext.refl _ | exact Ext.of_xt _ _ | apply Ext.alloc | apply Ext.drewN | apply Ext.drew)) hq_; have e_w5_w6 : Ext w5 w6 := Ext.trans (by repeat (first | assumption | exact Ext.refl _ | exact Ext.of_xt _ _ | apply Ext.alloc | apply Ext.drewN | apply Ext.drew)) hq_; clear hq_)
          go_wp2
          go_ret
          exact ⟨rfl, e_w_w6⟩
        | true =>
          have HTB := Aside0.mk htb
          cases hcb : (gone (toN (fnP p f).blocks) (fnP p f).blocks.length [y.toNat]).contains x.toNat with
          | true =>
            have HCB := Aside0.mk hcb
            clear htb hcb HAH
            go_wp2
            (refine wp_region_ext (by kernel_rfl) (by kernel_rfl) (Ext.refl _) ?_; (repeat (first | go_big_quiet_skip | (go_big_quiet_want; go_big_quiet_op; first | go_big_quiet_on | (apply Exists.intro; refine ⟨fun xq_ => ?_, ?_⟩; (focus ((first | refine quiet_call (among9_v (nxP p f x) y _ _ _ (Ext.C (by first | exact e_w5_w5.trans (Ext.drew (Ext.of_xt _ _)) | exact e_w5_w5.trans (Ext.of_xt _ _)) HC5.out) _ rfl true HTB.out) | refine quiet_call (HCM.out _ true (by first | exact e_w_w5.trans (Ext.drew (Ext.of_xt _ _)) | exact e_w_w5.trans (Ext.of_xt _ _)) HCB.out)))); go_big_quiet_on)))); refine wpQuiet_nil ?_; intro w6 hq_; replace hq_ := Ext.of_ex hq_; have e_w_w6 : Ext w w6 := Ext.trans (by repeat (first | assumption | exact Ext.refl _ | exact Ext.of_xt _ _ | apply Ext.alloc | apply Ext.drewN | apply Ext.drew)) hq_; have e_w5_w6 : Ext w5 w6 := Ext.trans (by repeat (first | assumption | exact Ext.refl _ | exact Ext.of_xt _ _ | apply Ext.alloc | apply Ext.drewN | apply Ext.drew)) hq_; clear hq_)
            go_wp2
            go_ret
            exact ⟨rfl, e_w_w6⟩
          | false =>
            have HCB := Aside0.mk hcb
            have hik := HAH.out htb hcb
            clear htb hcb HAH
            go_wp2
            (refine wp_region_ext (by kernel_rfl) (by kernel_rfl) (Ext.refl _) ?_; (repeat (first | go_big_quiet_skip | (go_big_quiet_want; go_big_quiet_op; first | go_big_quiet_on | (apply Exists.intro; refine ⟨fun xq_ => ?_, ?_⟩; (focus ((first | refine quiet_call (among9_v (nxP p f x) y _ _ _ (Ext.C (by first | exact e_w5_w5.trans (Ext.drew (Ext.of_xt _ _)) | exact e_w5_w5.trans (Ext.of_xt _ _)) HC5.out) _ rfl true HTB.out) | refine quiet_call (HCM.out _ false (by first | exact e_w_w5.trans (Ext.drew (Ext.of_xt _ _)) | exact e_w_w5.trans (Ext.of_xt _ _)) HCB.out)))); go_big_quiet_on)))); refine wpQuiet_nil ?_; intro w6 hq_; replace hq_ := Ext.of_ex hq_; have e_w_w6 : Ext w w6 := Ext.trans (by repeat (first | assumption | exact Ext.refl _ | exact Ext.of_xt _ _ | apply Ext.alloc | apply Ext.drewN | apply Ext.drew)) hq_; have e_w5_w6 : Ext w5 w6 := Ext.trans (by repeat (first | assumption | exact Ext.refl _ | exact Ext.of_xt _ _ | apply Ext.alloc | apply Ext.drewN | apply Ext.drew)) hq_; clear hq_)
            go_wp2
            go_ret
            exact ⟨rfl, e_w_w6⟩
end Go.Proofs.YtjbnabjjbofhjaaDoor.Fes
