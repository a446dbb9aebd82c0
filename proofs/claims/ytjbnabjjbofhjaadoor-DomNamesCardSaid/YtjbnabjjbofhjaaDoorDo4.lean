/- Package dom: whether a block rules another one; the ruler next to one. -/
import Derived.Test.YtjbnabjjbofhjaaDoorDo3
import Derived.Test.YtjbnabjjbofhjaaDoorFl8
set_option linter.unusedVariables false
set_option linter.unusedSimpArgs false
namespace Go.Proofs.YtjbnabjjbofhjaaDoor.Fes
open Go.RowKit Go.Proofs.YtjbnabjjbofhjaaDoorW.PrintWords

theorem cont_v (xs : List Int) (y : Int) (A : Option Addr) (c : Nat) (w : World) (hA : Kd.C (Kd.int .i64) w A xs.length xs) (b : Bool) (hb : xs.contains y = b) :
    Calls Tryd.prog 58 #[.slice A xs.length c, .int .i64 y] w fun e w' => e = .returned (.bool b) ∧ w = w' := by
  subst hb
  exact cont_c w xs y A c hA
def DomPost (p : Prg) (f : Int) (w : World) (e : Ending) (w' : World) : Prop :=
  ∃ g ns os, e = .returned (.tuple #[.pointer (some ⟨g, 0, none⟩), .int .i64 0]) ∧ RuB w' g ns os ∧ Rests (toF p f) (odB (toF p f) (nF p f)) (nxF ns) ∧ OrdS (toF p f) (odB (toF p f) (nF p f)) os ∧ Ext w w'
section
variable (p : Prg) (f b : Int) (A0 A1 : Option Addr) (c0 c1 : Nat) (w : World)
set_option maxHeartbeats 4000000 in
theorem domAsk_yes (h : domE p f b = 0) (hT : Tab w) (hs : SmP p) (hw : WfP p) (hp : AtP w p A0 A1) :
    Calls Tryd.prog 69 #[vPrg p A0 c0 A1 c1, .int .i64 f, .int .i64 b] w (DomPost p f w) := by
  have HT := Aside0.mk hT
  have HP := Aside0.mk hp
  have HS := Aside0.mk hs
  have HW := Aside0.mk hw
  have D := domE_ok h
  have HD := Aside0.mk D
  obtain ⟨_, hf, _, _⟩ := flE_zero D.fl
  have b0 := D.b0
  have b1 : b < (fnP p f).blocks.length := D.b1
  have hfl := hs.fl
  have HC := Aside0.mk (show (reP p f).contains b = true by
    rw [contains_iff]
    obtain ⟨q, rfl⟩ := Int.eq_ofNat_of_zero_le b0
    exact (re_mem D.fl q).2 D.rc)
  have H0 := Aside0.mk D.fl0
  obtain ⟨k, rfl⟩ := Int.eq_ofNat_of_zero_le hf.1
  have hk : k < p.funcs.length := by omega
  rw [fnP_at hk] at b1
  clear hT hp hs hw h D hf
  unfold vPrg
  go_enter Tryd.func69, Tryd.ntmps69
  go_upto_region 1 with (fail)
  (have e_w_W0 : Ext w (w.alloc (.cells #[.slice A0 p.types.length c0, .slice A1 p.funcs.length c1] 25)) := (by repeat (first | assumption | exact Ext.refl _ | exact Ext.of_xt _ _ | apply Ext.alloc | apply Ext.drewN | apply Ext.drew)); have b_W0_0_0 := stays (w := w.alloc (.cells #[.slice A0 p.types.length c0, .slice A1 p.funcs.length c1] 25)) (a := ⟨w.heap.size, 0, none⟩) (by first | (go_simp; rfl) | rfl); have b_W0_0_1 := stays (w := w.alloc (.cells #[.slice A0 p.types.length c0, .slice A1 p.funcs.length c1] 25)) (a := ⟨w.heap.size, 1, none⟩) (by first | (go_simp; rfl) | rfl); generalize w.alloc (.cells #[.slice A0 p.types.length c0, .slice A1 p.funcs.length c1] 25) = W0 at e_w_W0 b_W0_0_0 b_W0_0_1 ⊢)
  go_wp2_with fail
  refine (flReach_c p k A0 A1 c0 c1 _ (HT.out.ext (by repeat (first | assumption | exact Ext.refl _ | exact Ext.of_xt _ _ | apply Ext.alloc | apply Ext.drewN | apply Ext.drew))) HS.out HW.out (HP.out.ext (by repeat (first | assumption | exact Ext.refl _ | exact Ext.of_xt _ _ | apply Ext.alloc | apply Ext.drewN | apply Ext.drew)))).mono ?_
  rintro _ w1 ⟨v1, rfl, hv1, hx_⟩
  have e_w_w1 := e_w_W0.trans hx_
  have e_W0_w1 := hx_
  rw [H0.out]
  obtain ⟨oA, oc, rfl, _, hoC⟩ := hv1.reads
  have HO1 := Aside0.mk hoC
  clear hv1 hx_ hoC
  obtain ⟨ad, B1, d1, he_, y0, y1, ly, gy⟩ := at_Fc (e_w_w1.C HP.out.cf) k hk
  subst he_
  clear gy ly
  generalize p.funcs[k] = fn at *
  go_wp2_with fail
  refine (cont_v (reP p k) b oA oc _ HO1.out _ HC.out).mono ?_
  rintro _ _ ⟨rfl, rfl⟩
  go_wp2_with fail
  refine (of_c p k A0 (some ad) c0 c1 _ H0.out (HT.out.ext e_w_w1) HS.out HW.out (HP.out.ext e_w_w1)).mono ?_
  rintro _ w2 ⟨g, ns, os, rfl, hB, hR, hO, hx_⟩
  have HB := Aside0.mk hB
  have HR := Aside0.mk hR
  have HO := Aside0.mk hO
  have e_w_w2 := e_w_w1.trans hx_
  clear hB hR hO hx_
  go_wp2
  go_ret2
  exact ⟨g, ns, os, rfl, HB.out, HR.out, HO.out, e_w_w2⟩

set_option maxHeartbeats 4000000 in
theorem domAsk_no (h : domE p f b ≠ 0) (hT : Tab w) (hs : SmP p) (hw : WfP p) (hp : AtP w p A0 A1) :
    Calls Tryd.prog 69 #[vPrg p A0 c0 A1 c1, .int .i64 f, .int .i64 b] w fun e w' => e = .returned (.tuple #[.pointer none, .int .i64 (domE p f b)]) ∧ Ext w w' := by
  have HT := Aside0.mk hT
  have HP := Aside0.mk hp
  have HS := Aside0.mk hs
  have HW := Aside0.mk hw
  have HN := Aside0.mk h
  have hfl := hs.fl
  clear hT hp hs hw h
  unfold vPrg
  go_enter Tryd.func69, Tryd.ntmps69
  go_upto_region 1 with (fail)
  (have e_w_W0 : Ext w (w.alloc (.cells #[.slice A0 p.types.length c0, .slice A1 p.funcs.length c1] 25)) := (by repeat (first | assumption | exact Ext.refl _ | exact Ext.of_xt _ _ | apply Ext.alloc | apply Ext.drewN | apply Ext.drew)); have b_W0_0_0 := stays (w := w.alloc (.cells #[.slice A0 p.types.length c0, .slice A1 p.funcs.length c1] 25)) (a := ⟨w.heap.size, 0, none⟩) (by first | (go_simp; rfl) | rfl); have b_W0_0_1 := stays (w := w.alloc (.cells #[.slice A0 p.types.length c0, .slice A1 p.funcs.length c1] 25)) (a := ⟨w.heap.size, 1, none⟩) (by first | (go_simp; rfl) | rfl); generalize w.alloc (.cells #[.slice A0 p.types.length c0, .slice A1 p.funcs.length c1] 25) = W0 at e_w_W0 b_W0_0_0 b_W0_0_1 ⊢)
  go_wp2_with fail
  refine (flReach_c p f A0 A1 c0 c1 _ (HT.out.ext (by repeat (first | assumption | exact Ext.refl _ | exact Ext.of_xt _ _ | apply Ext.alloc | apply Ext.drewN | apply Ext.drew))) HS.out HW.out (HP.out.ext (by repeat (first | assumption | exact Ext.refl _ | exact Ext.of_xt _ _ | apply Ext.alloc | apply Ext.drewN | apply Ext.drew)))).mono ?_
  rintro _ w1 ⟨v1, rfl, hv1, hx_⟩
  have e_w_w1 := e_w_W0.trans hx_
  have e_W0_w1 := hx_
  obtain ⟨oA, oc, rfl, _, hoC⟩ := hv1.reads
  have HO1 := Aside0.mk hoC
  clear hv1 hx_ hoC
  by_cases h0 : flE p f 0 = 0
  case neg =>
    have HG := Aside0.mk (domE_none (b := b) h0).1
    have hne : (flE p f 0 != 0) = true := by simp [h0]
    generalize flE p f 0 = e at *
    clear h0
    go_wp2
    go_ret2
    exact ⟨ret_vi HG.out.symm, e_w_w1⟩
  obtain ⟨_, hf, _, _⟩ := flE_zero h0
  have H0 := Aside0.mk h0
  rw [h0]
  clear h0
  obtain ⟨k, rfl⟩ := Int.eq_ofNat_of_zero_le hf.1
  have hk : k < p.funcs.length := by omega
  have HF := Aside0.mk (fnP_at hk)
  obtain ⟨ad, B1, d1, he_, y0, y1, ly, gy⟩ := at_Fc (e_w_w1.C HP.out.cf) k hk
  subst he_
  rw [← HF.out] at y1 ly
  clear gy hf
  have hrl : (reP p k).length ≤ 9223372036854775807 := HO1.out.2.1
  by_cases hb0 : b < 0
  case pos =>
    have HG := Aside0.mk (domE_out (b := b) H0.out (by omega))
    generalize (fnP p k).blocks = bs at *
    go_wp2
    go_ret2
    exact ⟨ret_vi HG.out.symm, e_w_w1⟩
  by_cases hb1 : (nF p k : Int) ≤ b
  case pos =>
    have HG := Aside0.mk (domE_out (b := b) H0.out (by omega))
    have hb2 : ((fnP p k).blocks.length : Int) ≤ b := hb1
    clear hb1
    generalize (fnP p k).blocks = bs at *
    go_wp2
    go_ret2
    exact ⟨ret_vi HG.out.symm, e_w_w1⟩
  have hb2 : b < ((fnP p k).blocks.length : Int) := by
    have : ¬ ((fnP p k).blocks.length : Int) ≤ b := hb1
    omega
  have hfb : flE p k b = 0 := flE_any H0.out (by omega) hb2
  have hnr : ¬ Rc (toF p k) b.toNat := fun hr => HN.out (domE_of hfb hr)
  have HG := Aside0.mk (domE_six hfb hnr)
  have HC := Aside0.mk (show (reP p k).contains b = false by
    cases hq : (reP p k).contains b with
    | false => rfl
    | true =>
      rw [contains_iff] at hq
      obtain ⟨q, rfl⟩ := Int.eq_ofNat_of_zero_le (show 0 ≤ b by omega)
      exact absurd ((re_mem hfb q).1 hq) hnr)
  clear hfb hnr hb1
  generalize (fnP p k).blocks = bs at *
  go_wp2_with fail
  refine (cont_v (reP p k) b oA oc _ HO1.out _ HC.out).mono ?_
  rintro _ _ ⟨rfl, rfl⟩
  go_wp2
  go_ret2
  exact ⟨ret_vi HG.out.symm, e_w_w1⟩
end
end Go.Proofs.YtjbnabjjbofhjaaDoor.Fes
