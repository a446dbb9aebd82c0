/- Package dom: Rules, Next. -/
import Derived.Test.YtjbnabjjbofhjaaDoorDo4
set_option linter.unusedVariables false
set_option linter.unusedSimpArgs false
namespace Go.Proofs.YtjbnabjjbofhjaaDoor.Fes
open Go.RowKit Go.Proofs.YtjbnabjjbofhjaaDoorW.PrintWords

section
variable (p : Prg) (f a b : Int) (A0 A1 : Option Addr) (c0 c1 : Nat) (w : World)
set_option maxHeartbeats 4000000 in
theorem domRules_c (hT : Tab w) (hs : SmP p) (hw : WfP p) (hp : AtP w p A0 A1) :
    Calls Tryd.prog 36 #[vPrg p A0 c0 A1 c1, .int .i64 f, .int .i64 a, .int .i64 b] w fun e w' => e = .returned (.tuple #[.bool (rlB p f a b), .int .i64 (rlE p f a b)]) ∧ Ext w w' := by
  have HT := Aside0.mk hT
  have HP := Aside0.mk hp
  have HS := Aside0.mk hs
  have HW := Aside0.mk hw
  clear hT hp hs hw
  unfold vPrg
  go_enter Tryd.func36, Tryd.ntmps36
  go_upto_region 1 with (fail)
  (have e_w_W0 : Ext w (w.alloc (.cells #[.slice A0 p.types.length c0, .slice A1 p.funcs.length c1] 25)) := (by repeat (first | assumption | exact Ext.refl _ | exact Ext.of_xt _ _ | apply Ext.alloc | apply Ext.drewN | apply Ext.drew)); have b_W0_0_0 := stays (w := w.alloc (.cells #[.slice A0 p.types.length c0, .slice A1 p.funcs.length c1] 25)) (a := ⟨w.heap.size, 0, none⟩) (by first | (go_simp; rfl) | rfl); have b_W0_0_1 := stays (w := w.alloc (.cells #[.slice A0 p.types.length c0, .slice A1 p.funcs.length c1] 25)) (a := ⟨w.heap.size, 1, none⟩) (by first | (go_simp; rfl) | rfl); generalize w.alloc (.cells #[.slice A0 p.types.length c0, .slice A1 p.funcs.length c1] 25) = W0 at e_w_W0 b_W0_0_0 b_W0_0_1 ⊢)
  go_wp2_with fail
  refine (flNext_c _ p f a A0 A1 c0 c1 (HT.out.ext (by repeat (first | assumption | exact Ext.refl _ | exact Ext.of_xt _ _ | apply Ext.alloc | apply Ext.drewN | apply Ext.drew))) HS.out HW.out (HP.out.ext (by repeat (first | assumption | exact Ext.refl _ | exact Ext.of_xt _ _ | apply Ext.alloc | apply Ext.drewN | apply Ext.drew)))).mono ?_
  rintro _ w1 ⟨v1, rfl, hv1, hx_⟩
  have e_w_w1 := e_w_W0.trans hx_
  have e_W0_w1 := hx_
  obtain ⟨A2, n2, c2, rfl⟩ := hv1.isSlice
  clear hv1 hx_
  by_cases ha : flE p f a = 0
  case neg =>
    have HG := Aside0.mk (show rlE p f a b = flE p f a by unfold rlE; rw [if_neg ha])
    have HR := Aside0.mk (rlB_no (p := p) (f := f) (a := a) (b := b) (by rw [HG.out]; exact ha))
    have hne : (flE p f a != 0) = true := by simp [ha]
    generalize hE : flE p f a = e at *
    have HE := Aside0.mk hE
    clear ha hE
    go_wp2
    go_ret2
    exact ⟨ret_bi HR.out.symm HG.out.symm, e_w_w1⟩
  have HG := Aside0.mk (show rlE p f a b = domE p f b by unfold rlE; rw [if_pos ha])
  have HA := Aside0.mk ha
  rw [ha]
  go_wp2_with fail
  by_cases hb : domE p f b = 0
  case neg =>
    have HR := Aside0.mk (rlB_no (p := p) (f := f) (a := a) (b := b) (by rw [HG.out]; exact hb))
    refine (domAsk_no p f b A0 A1 c0 c1 _ hb (HT.out.ext e_w_w1) HS.out HW.out (HP.out.ext e_w_w1)).mono ?_
    (rintro _ w2 ⟨rfl, hx_⟩; have e_w_w2 : Ext w w2 := Ext.trans (by repeat (first | assumption | exact Ext.refl _ | exact Ext.of_xt _ _ | apply Ext.alloc | apply Ext.drewN | apply Ext.drew)) hx_; have e_w1_w2 : Ext w1 w2 := Ext.trans (by repeat (first | assumption | exact Ext.refl _ | exact Ext.of_xt _ _ | apply Ext.alloc | apply Ext.drewN | apply Ext.drew)) hx_; have e_W0_w2 : Ext W0 w2 := Ext.trans (by repeat (first | assumption | exact Ext.refl _ | exact Ext.of_xt _ _ | apply Ext.alloc | apply Ext.drewN | apply Ext.drew)) hx_; clear hx_)
    have hne : (domE p f b != 0) = true := by simp [hb]
    generalize hE : domE p f b = e at *
    have HE := Aside0.mk hE
    clear hb hE ha
    go_wp2
    go_ret2
    exact ⟨ret_bi HR.out.symm HG.out.symm, e_w_w2⟩
  refine (domAsk_yes p f b A0 A1 c0 c1 _ hb (HT.out.ext e_w_w1) HS.out HW.out (HP.out.ext e_w_w1)).mono ?_
  rintro _ w2 ⟨g, ns, os, rfl, hB, hRS, hO, hx_⟩
  have e_w_w2 := e_w_w1.trans hx_
  have D := domE_ok hb
  have b0 := D.b0
  obtain ⟨_, _, a0, a1⟩ := flE_zero ha
  have HBE := Aside0.mk hb
  have HG2 := Aside0.mk (show rlE p f a b = 0 from HG.out.trans hb)
  have HDM := Aside0.mk (rlB_dm (p := p) (f := f) ha hb)
  have HB := Aside0.mk hB
  have HRS := Aside0.mk hRS
  have HO := Aside0.mk hO
  have HD := Aside0.mk D
  have HNU := Aside0.mk (odB_nums D.ins D.pos)
  obtain ⟨x, rfl⟩ := Int.eq_ofNat_of_zero_le a0
  obtain ⟨y, rfl⟩ := Int.eq_ofNat_of_zero_le b0
  clear hx_ ha hb D hB hRS hO HG a1
  go_wp2_with fail
  refine (rules_c HNU.out g ns os x y _ HB.out HRS.out.doms HO.out (HRS.out.known y HD.out.rc)).mono ?_
  rintro _ w3 ⟨r, rfl, hr, hx_⟩
  have e_w_w3 := e_w_w2.trans hx_
  have HQ := Aside0.mk (show r = rlB p f x y by
    rw [Bool.eq_iff_iff, hr, HDM.out]
    exact HRS.out.up x y HD.out.rc)
  clear hr hx_
  go_wp2
  go_ret2
  exact ⟨ret_bi HQ.out HG2.out.symm, e_w_w3⟩

set_option maxHeartbeats 4000000 in
theorem domNext_c (hT : Tab w) (hs : SmP p) (hw : WfP p) (hp : AtP w p A0 A1) :
    Calls Tryd.prog 34 #[vPrg p A0 c0 A1 c1, .int .i64 f, .int .i64 b] w fun e w' => e = .returned (.tuple #[.int .i64 (dnP p f b), .int .i64 (domE p f b)]) ∧ Ext w w' := by
  have HT := Aside0.mk hT
  have HP := Aside0.mk hp
  have HS := Aside0.mk hs
  have HW := Aside0.mk hw
  clear hT hp hs hw
  unfold vPrg
  go_enter Tryd.func34, Tryd.ntmps34
  go_upto_region 1 with (fail)
  (have e_w_W0 : Ext w (w.alloc (.cells #[.slice A0 p.types.length c0, .slice A1 p.funcs.length c1] 25)) := (by repeat (first | assumption | exact Ext.refl _ | exact Ext.of_xt _ _ | apply Ext.alloc | apply Ext.drewN | apply Ext.drew)); have b_W0_0_0 := stays (w := w.alloc (.cells #[.slice A0 p.types.length c0, .slice A1 p.funcs.length c1] 25)) (a := ⟨w.heap.size, 0, none⟩) (by first | (go_simp; rfl) | rfl); have b_W0_0_1 := stays (w := w.alloc (.cells #[.slice A0 p.types.length c0, .slice A1 p.funcs.length c1] 25)) (a := ⟨w.heap.size, 1, none⟩) (by first | (go_simp; rfl) | rfl); generalize w.alloc (.cells #[.slice A0 p.types.length c0, .slice A1 p.funcs.length c1] 25) = W0 at e_w_W0 b_W0_0_0 b_W0_0_1 ⊢)
  go_wp2_with fail
  by_cases hb : domE p f b = 0
  case neg =>
    have HR := Aside0.mk (show dnP p f b = 0 by unfold dnP; rw [if_neg hb])
    refine (domAsk_no p f b A0 A1 c0 c1 _ hb (HT.out.ext (by repeat (first | assumption | exact Ext.refl _ | exact Ext.of_xt _ _ | apply Ext.alloc | apply Ext.drewN | apply Ext.drew))) HS.out HW.out (HP.out.ext (by repeat (first | assumption | exact Ext.refl _ | exact Ext.of_xt _ _ | apply Ext.alloc | apply Ext.drewN | apply Ext.drew)))).mono ?_
    (rintro _ w2 ⟨rfl, hx_⟩; have e_w_w2 : Ext w w2 := Ext.trans (by repeat (first | assumption | exact Ext.refl _ | exact Ext.of_xt _ _ | apply Ext.alloc | apply Ext.drewN | apply Ext.drew)) hx_; have e_W0_w2 : Ext W0 w2 := Ext.trans (by repeat (first | assumption | exact Ext.refl _ | exact Ext.of_xt _ _ | apply Ext.alloc | apply Ext.drewN | apply Ext.drew)) hx_; clear hx_)
    have hne : (domE p f b != 0) = true := by simp [hb]
    generalize hE : domE p f b = e at *
    have HE := Aside0.mk hE
    clear hb hE
    go_wp2
    go_ret2
    exact ⟨ret_ii HR.out.symm HE.out.symm, e_w_w2⟩
  refine (domAsk_yes p f b A0 A1 c0 c1 _ hb (HT.out.ext (by repeat (first | assumption | exact Ext.refl _ | exact Ext.of_xt _ _ | apply Ext.alloc | apply Ext.drewN | apply Ext.drew))) HS.out HW.out (HP.out.ext (by repeat (first | assumption | exact Ext.refl _ | exact Ext.of_xt _ _ | apply Ext.alloc | apply Ext.drewN | apply Ext.drew)))).mono ?_
  rintro _ w2 ⟨g, ns, os, rfl, hB, hRS, hO, hx_⟩
  have e_w_w2 := e_w_W0.trans hx_
  have D := domE_ok hb
  have b0 := D.b0
  have HBE := Aside0.mk hb
  obtain ⟨q, rfl⟩ := Int.eq_ofNat_of_zero_le b0
  have HDN := Aside0.mk (show dnP p f q = rulerL (toF p f) (nF p f) q by unfold dnP; rw [if_pos hb]; rfl)
  have hrc : Rc (toF p f) q := D.rc
  have hq16 : q < 16 := (hO q hrc).1
  have hB' := hB
  by_cases h0 : q = 0
  case pos =>
    subst h0
    have HZ := Aside0.mk (show dnP p f ((0 : Nat) : Int) = -1 by rw [HDN.out]; exact rulerL_zero D.ins D.pos)
    clear hx_ hb D hB hB' hRS hO hrc
    go_wp2
    go_ret2
    exact ⟨ret_ii HZ.out.symm HBE.out.symm, e_w_w2⟩
  case neg =>
    have HZ := Aside0.mk (show dnP p f q = nxF ns q by rw [HDN.out]; exact (hRS.next D.ins D.pos hrc h0).symm)
    have k1 := hB.next hq16
    have q0 : ((q : Int) == 0) = false := by simp; omega
    have q1 : (0 : Int) ≤ (q : Int) := by omega
    have q2 : (q : Int) < 16 := by omega
    clear hx_ hb D hB hB' hRS hO hrc h0
    go_wp2
    go_ret2
    exact ⟨ret_ii HZ.out.symm HBE.out.symm, e_w_w2⟩
end
end Go.Proofs.YtjbnabjjbofhjaaDoor.Fes
