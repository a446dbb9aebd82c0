/- FlowRounds: a block lies on a round just if it can be come to from one that it goes to. -/
import Derived.Test.YtjbnabjjbofhjaaDoorFs
set_option linter.unusedVariables false
set_option linter.unusedSimpArgs false
namespace Go.Proofs.YtjbnabjjbofhjaaDoor.Fes
open Go.RowKit Go.Proofs.YtjbnabjjbofhjaaDoorW.PrintWords

def cbB (bs : List Blk) (b k : Nat) : Bool := ((toN bs b).take k).any fun c => (gone (toN bs) bs.length [c]).contains b
theorem cbB_succ {bs : List Blk} {b k : Nat} (h : k < (toN bs b).length) : cbB bs b (k + 1) = (cbB bs b k || (gone (toN bs) bs.length [(toN bs b)[k]]).contains b) := by
  unfold cbB
  rw [take_snoc _ _ h, List.any_append]
  simp only [List.any_cons, List.any_nil, Bool.or_false]
theorem cbB_all {bs : List Blk} (hi : Inside (toN bs) bs.length) {b : Nat} (hb : b < bs.length) : cbB bs b (toN bs b).length = (gone (toN bs) bs.length (toN bs b)).contains b := by
  unfold cbB
  rw [List.take_length, Bool.eq_iff_iff]
  simp only [List.any_eq_true, List.contains_eq_mem, decide_eq_true_eq]
  rw [mem_gone _ _ hi _ (hi b hb)]
  constructor
  · rintro ⟨c, hc, hm⟩
    rw [mem_gone _ _ hi [c] (by simpa using hi b hb c hc)] at hm
    obtain ⟨d, hd, hr⟩ := hm
    obtain rfl : d = c := by simpa using hd
    exact ⟨d, hc, hr⟩
  · rintro ⟨c, hc, hr⟩
    exact ⟨c, hc, (mem_gone _ _ hi [c] (by simpa using hi b hb c hc) b).2 ⟨c, by simp, hr⟩⟩

set_option maxRecDepth 100000 in
set_option maxHeartbeats 4000000 in
theorem flowRounds_c (p : Prg) (f b : Int) (A0 A1 : Option Addr) (c0 c1 : Nat) (w : World) (hT : Tab w) (hw : WfP p) (hz : ∀ f ∈ p.funcs, ∀ b ∈ f.blocks, b.ins.length ≤ 140737488351232) (hp : AtP w p A0 A1) :
    Calls Tryd.prog 4 #[vPrg p A0 c0 A1 c1, .int .i64 f, .int .i64 b] w fun e w' => e = .returned (.bool true) ∧ Ext w w' := by
  have HT := Aside0.mk hT
  have HP := Aside0.mk hp
  have HW := Aside0.mk hw
  have HZ := Aside0.mk hz
  clear hT hp hw hz
  unfold vPrg
  go_enter Tryd.func4, Tryd.ntmps4
  go_upto_region 1 with (fail)
  (have e_w_W0 : Ext w (w.alloc (.cells #[.slice A0 p.types.length c0, .slice A1 p.funcs.length c1] 25)) := (by repeat (first | assumption | exact Ext.refl _ | exact Ext.of_xt _ _ | apply Ext.alloc | apply Ext.drewN | apply Ext.drew)); have b_W0_0_0 := stays (w := w.alloc (.cells #[.slice A0 p.types.length c0, .slice A1 p.funcs.length c1] 25)) (a := ⟨w.heap.size, 0, none⟩) (by first | (go_simp; rfl) | rfl); have b_W0_0_1 := stays (w := w.alloc (.cells #[.slice A0 p.types.length c0, .slice A1 p.funcs.length c1] 25)) (a := ⟨w.heap.size, 1, none⟩) (by first | (go_simp; rfl) | rfl); generalize w.alloc (.cells #[.slice A0 p.types.length c0, .slice A1 p.funcs.length c1] 25) = W0 at e_w_W0 b_W0_0_0 b_W0_0_1 ⊢)
  go_wp2_with fail
  refine (alive9_c _ (HT.out.ext (by repeat (first | assumption | exact Ext.refl _ | exact Ext.of_xt _ _ | apply Ext.alloc | apply Ext.drewN | apply Ext.drew)))).mono ?_
  (rintro _ w1 ⟨rfl, hx_⟩; have e_w_w1 : Ext w w1 := Ext.trans (by repeat (first | assumption | exact Ext.refl _ | exact Ext.of_xt _ _ | apply Ext.alloc | apply Ext.drewN | apply Ext.drew)) hx_; have e_W0_w1 : Ext W0 w1 := Ext.trans (by repeat (first | assumption | exact Ext.refl _ | exact Ext.of_xt _ _ | apply Ext.alloc | apply Ext.drewN | apply Ext.drew)) hx_; clear hx_)
  go_wp2_with fail
  refine (great_c p 300 A0 A1 c0 c1 _ (by omega) (by omega) HZ.out (HP.out.ext (by repeat (first | assumption | exact Ext.refl _ | exact Ext.of_xt _ _ | apply Ext.alloc | apply Ext.drewN | apply Ext.drew)))).mono ?_
  rintro _ w2 ⟨gb, rfl, hsm, hx_⟩
  have e_w_w2 := e_w_w1.trans hx_
  have e_W0_w2 := e_W0_w1.trans hx_
  have HSM := Aside0.mk hsm
  clear hsm hx_
  cases gb with
  | true =>
    go_wp2
    go_ret
    exact ⟨rfl, e_w_w2⟩
  | false =>
    have HS := Aside0.mk (HSM.out rfl)
    clear HSM
    go_wp2_with fail
    refine (flRound_c p f b A0 A1 c0 c1 _ (HT.out.ext e_w_w2) HS.out HW.out (HP.out.ext e_w_w2)).mono ?_
    (rintro _ w3 ⟨rfl, hx_⟩; have e_w_w3 : Ext w w3 := Ext.trans (by repeat (first | assumption | exact Ext.refl _ | exact Ext.of_xt _ _ | apply Ext.alloc | apply Ext.drewN | apply Ext.drew)) hx_; have e_W0_w3 : Ext W0 w3 := Ext.trans (by repeat (first | assumption | exact Ext.refl _ | exact Ext.of_xt _ _ | apply Ext.alloc | apply Ext.drewN | apply Ext.drew)) hx_; clear hx_)
    go_wp2_with fail
    refine (flNext_c _ p f b A0 A1 c0 c1 (HT.out.ext e_w_w3) HS.out HW.out (HP.out.ext e_w_w3)).mono ?_
    rintro _ w4 ⟨v4, rfl, hv4, hx_⟩
    have e_w_w4 := e_w_w3.trans hx_
    have e_W0_w4 := e_W0_w3.trans hx_
    by_cases h0 : flE p f b = 0
    case neg =>
      have hrd : rdP p f b = false := by unfold rdP; rw [if_neg h0]
      have hne : (flE p f b != 0) = true := by simp [h0]
      rw [hrd]
      generalize flE p f b = e at *
      clear h0 hv4 hx_ hrd
      go_wp2
      go_ret
      exact ⟨rfl, e_w_w4⟩
    case pos =>
      obtain ⟨hc, hf01, b0, b1⟩ := flE_zero h0
      obtain ⟨bn, rfl⟩ := Int.eq_ofNat_of_zero_le b0
      have hbn : bn < (fnP p f).blocks.length := by omega
      have HE := Aside0.mk (flE_edge h0)
      have hnx : nxP p f bn = castL (toN (fnP p f).blocks bn) := by
        unfold nxP
        rw [if_pos h0]
        have := HE.out.cast hbn
        simpa [castL, List.getD_eq_getElem?_getD, hbn] using this
      have HRD := Aside0.mk (show rdP p f bn = cbB (fnP p f).blocks bn (toN (fnP p f).blocks bn).length by
        rw [cbB_all HE.out.inside hbn]; unfold rdP; rw [if_pos h0]; rfl)
      rw [hnx] at hv4
      have HCM : Aside0 (∀ (x : Nat) (W : World), x ∈ toN (fnP p f).blocks bn → Ext w W → Calls Tryd.prog 28 #[vPrg p A0 c0 A1 c1, .int .i64 f, .int .i64 x, .int .i64 bn] W fun e w' => e = .returned (.bool ((gone (toN (fnP p f).blocks) (fnP p f).blocks.length [x]).contains bn)) ∧ Ext W w') := ⟨fun x W hx hW => by
        have hxl := HE.out.inside bn hbn x hx
        have hx0 : flE p f x = 0 := by unfold flE; rw [if_pos (flE_ask h0), belB_iff.2 ⟨by omega, by omega⟩]; rfl
        exact comes9_c p f x bn A0 A1 c0 c1 W hx0 (by omega) (HT.out.ext hW) HS.out HW.out (HP.out.ext hW)⟩
      have htl : (toN (fnP p f).blocks bn).length ≤ 2 := by
        have := toE_len ((fnP p f).blocks.getD bn zBlk).en
        unfold toN
        rw [List.length_map]; exact this
      rw [h0, HRD.out]
      clear hc hf01 b0 b1 h0 hnx
      obtain ⟨A2, c2, rfl, hC4⟩ := hv4.len_le
      have HC4 := Aside0.mk hC4
      clear hv4 hC4 hx_
      generalize (fnP p f).blocks = bs at *
      go_wp2
      go_loopw [12, 13] (fun s i wr => ∃ k : Nat, k ≤ (toN bs bn).length ∧ i = .int .i64 k ∧ s = .bool (cbB bs bn k) ∧ Ext w4 wr) (fun _ i _ => (toN bs bn).length - (intOf i).toNat)
      case atStart => exact ⟨0, by omega, rfl, by simp [cbB], Ext.refl _⟩
      case round =>
        obtain ⟨k, hk, rfl, rfl, hx⟩ := hrel
        by_cases hlt : k < (toN bs bn).length
        case pos =>
          obtain ⟨ad, he_, a0⟩ := at_int (hx.C HC4.out) k (by rw [castL_len]; exact hlt)
          rw [castL_at _ k hlt] at a0
          subst he_
          have HSU := Aside0.mk (cbB_succ hlt)
          have hxm := List.getElem_mem hlt
          have HXM := Aside0.mk hxm
          clear hxm
          generalize (toN bs bn)[k] = x at *
          have e_w_wr := e_w_w4.trans hx
          have e_W0_wr := e_W0_w4.trans hx
          cases hcb : cbB bs bn k with
          | true =>
            have HQ := Aside0.mk (show cbB bs bn (k + 1) = true by rw [HSU.out, hcb]; rfl)
            clear hcb
            go_wp2
            go_quiet (fail)
            go_wp2
            go_roundw
            case rel => exact ⟨k + 1, by omega, by go_num, by rw [HQ.out], (by repeat (first | assumption | exact Ext.refl _ | exact Ext.of_xt _ _ | apply Ext.alloc | apply Ext.drewN | apply Ext.drew))⟩
            case measure => simp [intOf]; omega
          | false =>
            have HQ := Aside0.mk (show cbB bs bn (k + 1) = (gone (toN bs) bs.length [x]).contains bn by rw [HSU.out, hcb]; rfl)
            clear hcb
            go_wp2
            (refine wp_region_ext (by kernel_rfl) (by kernel_rfl) (Ext.refl _) ?_; (repeat (first | go_big_quiet_skip | (go_big_quiet_want; go_big_quiet_op; first | go_big_quiet_on | (apply Exists.intro; refine ⟨fun xq_ => ?_, ?_⟩; (focus ((refine quiet_call (HCM.out x _ HXM.out (by first | exact e_w_wr.trans (Ext.drew (Ext.of_xt _ _)) | exact e_w_wr.trans (Ext.of_xt _ _)))))); go_big_quiet_on)))); refine wpQuiet_nil ?_; intro w5 hq_; replace hq_ := Ext.of_ex hq_; have e_w_w5 : Ext w w5 := Ext.trans (by repeat (first | assumption | exact Ext.refl _ | exact Ext.of_xt _ _ | apply Ext.alloc | apply Ext.drewN | apply Ext.drew)) hq_; have e_wr_w5 : Ext wr w5 := Ext.trans (by repeat (first | assumption | exact Ext.refl _ | exact Ext.of_xt _ _ | apply Ext.alloc | apply Ext.drewN | apply Ext.drew)) hq_; have e_w4_w5 : Ext w4 w5 := Ext.trans (by repeat (first | assumption | exact Ext.refl _ | exact Ext.of_xt _ _ | apply Ext.alloc | apply Ext.drewN | apply Ext.drew)) hq_; clear hq_)
            go_wp2
            go_roundw
            case rel => exact ⟨k + 1, by omega, by go_num, by rw [HQ.out, List.contains_eq_mem], (by repeat (first | assumption | exact Ext.refl _ | exact Ext.of_xt _ _ | apply Ext.alloc | apply Ext.drewN | apply Ext.drew))⟩
            case measure => simp [intOf]; omega
        case neg =>
          obtain rfl : k = (toN bs bn).length := by omega
          have e_w_wr := e_w_w4.trans hx
          generalize cbB bs bn (toN bs bn).length = cb at *
          go_wp2
          go_ret
          exact ⟨ret_bool (by simp), e_w_wr⟩
end Go.Proofs.YtjbnabjjbofhjaaDoor.Fes
