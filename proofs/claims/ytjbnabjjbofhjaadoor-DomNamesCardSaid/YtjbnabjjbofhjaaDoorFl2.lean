/- Package flow: the blocks that go to one. -/
import Derived.Test.YtjbnabjjbofhjaaDoorFl1
set_option linter.unusedVariables false
set_option linter.unusedSimpArgs false
namespace Go.Proofs.YtjbnabjjbofhjaaDoor.Fes
open Go.RowKit Go.Proofs.YtjbnabjjbofhjaaDoorW.PrintWords

def isPred (bs : List Blk) (b : Int) (k : Nat) : Bool := (toE (bs.getD k zBlk).en).contains b
def prL (bs : List Blk) (b : Int) (n : Nat) : List Int := ((List.range n).filter (isPred bs b)).map fun k : Nat => (k : Int)
theorem prL_yes {bs : List Blk} {b : Int} {n : Nat} (h : isPred bs b n = true) : prL bs b (n + 1) = prL bs b n ++ [(n : Int)] := by simp [prL, List.range_succ, List.filter_append, h]
theorem prL_no {bs : List Blk} {b : Int} {n : Nat} (h : isPred bs b n = false) : prL bs b (n + 1) = prL bs b n := by simp [prL, List.range_succ, List.filter_append, h]
theorem prL_len (bs : List Blk) (b : Int) (n : Nat) : (prL bs b n).length ≤ n := by
  unfold prL
  rw [List.length_map]
  exact Nat.le_trans (List.length_filter_le _ _) (by simp)
/-- what goes to a block -/
def prP (p : Prg) (f b : Int) : List Int := if flE p f b = 0 then prL (fnP p f).blocks b (fnP p f).blocks.length else []
theorem blocks_le {p : Prg} (hs : SmP p) {f : Int} (h0 : 0 ≤ f) (h1 : f < p.funcs.length) : (fnP p f).blocks.length ≤ 20 := by
  obtain ⟨k, rfl⟩ := Int.eq_ofNat_of_zero_le h0
  have hk : k < p.funcs.length := by omega
  rw [fnP_at hk]
  exact hs.bl _ (List.getElem_mem hk)

set_option maxHeartbeats 4000000 in
theorem flPreds_c (p : Prg) (f b : Int) (A0 A1 : Option Addr) (c0 c1 : Nat) (w : World) (hT : Tab w) (hs : SmP p) (hw : WfP p) (hp : AtP w p A0 A1) :
    Calls Tryd.prog 21 #[vPrg p A0 c0 A1 c1, .int .i64 f, .int .i64 b] w fun e w' => ∃ v, e = .returned (.tuple #[v, .int .i64 (flE p f b)]) ∧ OwnI w w' v (prP p f b) ∧ Ext w w' := by
  have HT := Aside0.mk hT
  have HP := Aside0.mk hp
  have HS := Aside0.mk hs
  have HW := Aside0.mk hw
  clear hT hp hs hw
  unfold vPrg
  go_enter Tryd.func21, Tryd.ntmps21
  go_upto_region 1 with (fail)
  (have e_w_W0 : Ext w (w.alloc (.cells #[.slice A0 p.types.length c0, .slice A1 p.funcs.length c1] 25)) := (by repeat (first | assumption | exact Ext.refl _ | exact Ext.of_xt _ _ | apply Ext.alloc | apply Ext.drewN | apply Ext.drew)); have b_W0_0_0 := stays (w := w.alloc (.cells #[.slice A0 p.types.length c0, .slice A1 p.funcs.length c1] 25)) (a := ⟨w.heap.size, 0, none⟩) (by first | (go_simp; rfl) | rfl); have b_W0_0_1 := stays (w := w.alloc (.cells #[.slice A0 p.types.length c0, .slice A1 p.funcs.length c1] 25)) (a := ⟨w.heap.size, 1, none⟩) (by first | (go_simp; rfl) | rfl); generalize w.alloc (.cells #[.slice A0 p.types.length c0, .slice A1 p.funcs.length c1] 25) = W0 at e_w_W0 b_W0_0_0 b_W0_0_1 ⊢)
  go_wp2_with fail
  by_cases h0 : flE p f b = 0
  · refine (flAsk_yes p f b A0 A1 c0 c1 _ h0 (HT.out.ext (by repeat (first | assumption | exact Ext.refl _ | exact Ext.of_xt _ _ | apply Ext.alloc | apply Ext.drewN | apply Ext.drew))) HS.out HW.out (HP.out.ext (by repeat (first | assumption | exact Ext.refl _ | exact Ext.of_xt _ _ | apply Ext.alloc | apply Ext.drewN | apply Ext.drew)))).mono ?_
    rintro _ w1 ⟨B1, d1, rfl, hC, hcl, hx_⟩
    have e_w_w1 : Ext w w1 := Ext.trans (by repeat (first | assumption | exact Ext.refl _ | exact Ext.of_xt _ _ | apply Ext.alloc | apply Ext.drewN | apply Ext.drew)) hx_
    have HC := Aside0.mk (hx_.C hC)
    obtain ⟨_, hf01, b0, b1⟩ := flE_zero h0
    have hbl := blocks_le HS.out hf01.1 hf01.2
    have HX := Aside0.mk (show prP p f b = prL (fnP p f).blocks b (fnP p f).blocks.length by unfold prP; rw [if_pos h0])
    have H0 := Aside0.mk h0
    clear hC hx_ h0 hf01
    generalize (fnP p f).blocks = bs at *
    go_wp2
    go_loopw [6, 23] (fun l i wr => ∃ (k : Nat) (v : Value), k ≤ bs.length ∧ i = .int .i64 k ∧ v = l ∧ Aside0 (OwnI w1 wr v (prL bs b k)) ∧ Ext w1 wr) (fun _ i _ => bs.length - (intOf i).toNat)
    case atStart => exact ⟨0, _, by omega, rfl, rfl, ⟨OwnI.nil _ _⟩, Ext.refl _⟩
    case round =>
      obtain ⟨k, v, hk, rfl, rfl, HO, hx1⟩ := hrel
      have e_w_wr : Ext w wr := e_w_w1.trans hx1
      by_cases hlt : k < bs.length
      · obtain ⟨bd, D0, d0, rfl, y0, y1, y2, y3, y4, ly, gy⟩ := at_Blk (hx1.C HC.out) k hlt
        have HQ := Aside0.mk (show isPred bs b k = (toE (bs[k]).en).contains b by simp [isPred, List.getD_eq_getElem?_getD, hlt])
        have hln := prL_len bs b k
        clear ly gy
        generalize bs[k] = bl at *
        go_wp2_with fail
        refine (next_c _ bl.en).mono ?_
        rintro _ w2 ⟨v2, rfl, hv2, hx_⟩
        obtain ⟨gA, gc, rfl, hgl, hgC⟩ := hv2.reads
        have e_wr_w2 : Ext wr w2 := Ext.trans (by repeat (first | assumption | exact Ext.refl _ | exact Ext.of_xt _ _ | apply Ext.alloc | apply Ext.drewN | apply Ext.drew)) hx_
        have HGC := Aside0.mk hgC
        clear hv2 hx_ hgC hgl
        go_wp2_with fail
        refine (cont_c _ (toE bl.en) b gA gc HGC.out).mono ?_
        rintro _ _ ⟨rfl, rfl⟩
        cases hq : (toE bl.en).contains b with
        | false =>
          have HE := Aside0.mk (show prL bs b (k + 1) = prL bs b k from prL_no (by rw [HQ.out, hq]))
          clear hq
          go_wp2
          go_roundw
          case rel => exact ⟨k + 1, _, by omega, by go_num, rfl, ⟨by rw [HE.out]; exact HO.out.ext e_wr_w2⟩, hx1.trans e_wr_w2⟩
          case measure => simp [intOf]; omega
        | true =>
          have HE := Aside0.mk (show prL bs b (k + 1) = prL bs b k ++ [(k : Int)] from prL_yes (by rw [HQ.out, hq]))
          have e_w1_w2 := hx1.trans e_wr_w2
          have HO2 := Aside0.mk (HO.out.ext e_wr_w2)
          clear hq
          go_wp2_with (at_builtin; refine app_int rfl rfl rfl rfl HO2.out e_w1_w2 (by omega) ?_; intro v3 w3 hv3 hx3 hg3 _)
          have HV3 := Aside0.mk hv3
          clear hv3 hg3
          go_roundw
          case rel => exact ⟨k + 1, _, by omega, by go_num, rfl, ⟨by rw [HE.out]; exact HV3.out⟩, hx3⟩
          case measure => simp [intOf]; omega
      · obtain rfl : k = bs.length := by omega
        have HO' := Aside0.mk (OwnS.lower (OwnS.int HO.out) e_w_w1)
        clear HO
        go_wp2
        go_ret2
        exact ⟨_, ret_vi H0.out.symm, by rw [HX.out]; exact HO'.out, e_w_wr⟩
  · refine (flAsk_no p f b A0 A1 c0 c1 _ h0 (HT.out.ext (by repeat (first | assumption | exact Ext.refl _ | exact Ext.of_xt _ _ | apply Ext.alloc | apply Ext.drewN | apply Ext.drew))) HS.out HW.out (HP.out.ext (by repeat (first | assumption | exact Ext.refl _ | exact Ext.of_xt _ _ | apply Ext.alloc | apply Ext.drewN | apply Ext.drew)))).mono ?_
    (rintro _ w1 ⟨rfl, hx_⟩; have e_w_w1 : Ext w w1 := Ext.trans (by repeat (first | assumption | exact Ext.refl _ | exact Ext.of_xt _ _ | apply Ext.alloc | apply Ext.drewN | apply Ext.drew)) hx_; have e_W0_w1 : Ext W0 w1 := Ext.trans (by repeat (first | assumption | exact Ext.refl _ | exact Ext.of_xt _ _ | apply Ext.alloc | apply Ext.drewN | apply Ext.drew)) hx_; clear hx_)
    have HX := Aside0.mk (show prP p f b = [] by unfold prP; rw [if_neg h0])
    have hne : (flE p f b != 0) = true := by simp [h0]
    generalize hE : flE p f b = e at *
    have HE := Aside0.mk hE
    clear h0 hE
    go_wp2
    go_ret2
    exact ⟨_, ret_vi HE.out.symm, by rw [HX.out]; exact OwnI.nil _ _, (by repeat (first | assumption | exact Ext.refl _ | exact Ext.of_xt _ _ | apply Ext.alloc | apply Ext.drewN | apply Ext.drew))⟩
end Go.Proofs.YtjbnabjjbofhjaaDoor.Fes
