/- DomPlaces: what is set at a place is set further on in its block. -/
import Derived.Test.YtjbnabjjbofhjaaDoorDg3
import Derived.Test.YtjbnabjjbofhjaaDoorDo6
set_option linter.unusedVariables false
set_option linter.unusedSimpArgs false
namespace Go.Proofs.YtjbnabjjbofhjaaDoor.Fes
open Go.RowKit Go.Proofs.YtjbnabjjbofhjaaDoorW.PrintWords

set_option maxRecDepth 100000 in
set_option maxHeartbeats 8000000 in
theorem domPlaces_c (p : Prg) (f r b a : Int) (A0 A1 : Option Addr) (c0 c1 : Nat) (w : World) (hT : Tab w) (hw : WfP p) (hz : ∀ f ∈ p.funcs, ∀ b ∈ f.blocks, b.ins.length ≤ 140737488351232) (hp : AtP w p A0 A1) :
    Calls Tryd.prog 12 #[vPrg p A0 c0 A1 c1, .int .i64 f, .agg #[.int .i64 r, .int .i64 b, .int .i64 a]] w fun e w' => e = .returned (.bool true) ∧ Ext w w' := by
  have HT := Aside0.mk hT
  have HP := Aside0.mk hp
  have HW := Aside0.mk hw
  have HZ := Aside0.mk hz
  clear hT hp hw hz
  unfold vPrg
  go_enter Tryd.func12, Tryd.ntmps12
  go_upto_region 1 with (fail)
  (have e_w_W0 : Ext w ((w.alloc (.cells #[.slice A0 p.types.length c0, .slice A1 p.funcs.length c1] 25)).alloc (.cells #[.int .i64 r, .int .i64 b, .int .i64 a] 62)) := (by repeat (first | assumption | exact Ext.refl _ | exact Ext.of_xt _ _ | apply Ext.alloc | apply Ext.drewN | apply Ext.drew)); have b_W0_0_0 := stays (w := (w.alloc (.cells #[.slice A0 p.types.length c0, .slice A1 p.funcs.length c1] 25)).alloc (.cells #[.int .i64 r, .int .i64 b, .int .i64 a] 62)) (a := ⟨w.heap.size, 0, none⟩) (by first | (go_simp; rfl) | rfl); have b_W0_0_1 := stays (w := (w.alloc (.cells #[.slice A0 p.types.length c0, .slice A1 p.funcs.length c1] 25)).alloc (.cells #[.int .i64 r, .int .i64 b, .int .i64 a] 62)) (a := ⟨w.heap.size, 1, none⟩) (by first | (go_simp; rfl) | rfl); have b_W0_1_0 := stays (w := (w.alloc (.cells #[.slice A0 p.types.length c0, .slice A1 p.funcs.length c1] 25)).alloc (.cells #[.int .i64 r, .int .i64 b, .int .i64 a] 62)) (a := ⟨(w.heap.size + 1), 0, none⟩) (by first | (go_simp; rfl) | rfl); have b_W0_1_1 := stays (w := (w.alloc (.cells #[.slice A0 p.types.length c0, .slice A1 p.funcs.length c1] 25)).alloc (.cells #[.int .i64 r, .int .i64 b, .int .i64 a] 62)) (a := ⟨(w.heap.size + 1), 1, none⟩) (by first | (go_simp; rfl) | rfl); have b_W0_1_2 := stays (w := (w.alloc (.cells #[.slice A0 p.types.length c0, .slice A1 p.funcs.length c1] 25)).alloc (.cells #[.int .i64 r, .int .i64 b, .int .i64 a] 62)) (a := ⟨(w.heap.size + 1), 2, none⟩) (by first | (go_simp; rfl) | rfl); generalize (w.alloc (.cells #[.slice A0 p.types.length c0, .slice A1 p.funcs.length c1] 25)).alloc (.cells #[.int .i64 r, .int .i64 b, .int .i64 a] 62) = W0 at e_w_W0 b_W0_0_0 b_W0_0_1 b_W0_1_0 b_W0_1_1 b_W0_1_2 ⊢)
  go_wp2_with fail
  refine (alive10_c _ (HT.out.ext (by repeat (first | assumption | exact Ext.refl _ | exact Ext.of_xt _ _ | apply Ext.alloc | apply Ext.drewN | apply Ext.drew)))).mono ?_
  (rintro _ w1 ⟨rfl, hx_⟩; have e_w_w1 : Ext w w1 := Ext.trans (by repeat (first | assumption | exact Ext.refl _ | exact Ext.of_xt _ _ | apply Ext.alloc | apply Ext.drewN | apply Ext.drew)) hx_; have e_W0_w1 : Ext W0 w1 := Ext.trans (by repeat (first | assumption | exact Ext.refl _ | exact Ext.of_xt _ _ | apply Ext.alloc | apply Ext.drewN | apply Ext.drew)) hx_; clear hx_)
  go_wp2_with fail
  refine (great_c p 300 A0 A1 c0 c1 _ (by omega) (by omega) HZ.out (HP.out.ext (by repeat (first | assumption | exact Ext.refl _ | exact Ext.of_xt _ _ | apply Ext.alloc | apply Ext.drewN | apply Ext.drew)))).mono ?_
  rintro _ w2 ⟨gb, rfl, hsm, hx_⟩
  have e_w_w2 := e_w_w1.trans hx_
  have e_W0_w2 := e_W0_w1.trans hx_
  have HSM := Aside0.mk hsm
  clear hsm hx_
  cases gb with
  | true =>
    go_wp2
    go_ret
    exact ⟨rfl, e_w_w2⟩
  | false =>
    have HS := Aside0.mk (HSM.out rfl)
    clear HSM
    by_cases ha0 : a < 0
    case pos =>
      go_wp2
      go_ret
      exact ⟨rfl, e_w_w2⟩
    by_cases ha1 : 1000 < a
    case pos =>
      go_wp2
      go_ret
      exact ⟨rfl, e_w_w2⟩
    go_wp2_with fail
    refine (domSet_c p f r b a A0 A1 c0 c1 _ (HT.out.ext e_w_w2) HS.out HW.out (HP.out.ext e_w_w2)).mono ?_
    (rintro _ w3 ⟨rfl, hx_⟩; have e_w_w3 : Ext w w3 := Ext.trans (by repeat (first | assumption | exact Ext.refl _ | exact Ext.of_xt _ _ | apply Ext.alloc | apply Ext.drewN | apply Ext.drew)) hx_; have e_w2_w3 : Ext w2 w3 := Ext.trans (by repeat (first | assumption | exact Ext.refl _ | exact Ext.of_xt _ _ | apply Ext.alloc | apply Ext.drewN | apply Ext.drew)) hx_; have e_W0_w3 : Ext W0 w3 := Ext.trans (by repeat (first | assumption | exact Ext.refl _ | exact Ext.of_xt _ _ | apply Ext.alloc | apply Ext.drewN | apply Ext.drew)) hx_; clear hx_)
    by_cases h0 : seE p f r b a = 0
    case neg =>
      have hne : (seE p f r b a != 0) = true := by simp [h0]
      rw [seB_no h0]
      generalize seE p f r b a = e at *
      clear h0
      go_wp2
      go_ret
      exact ⟨rfl, e_w_w3⟩
    have HPL := Aside0.mk (dplaces h0)
    rw [h0]
    clear h0
    go_wp2_with fail
    refine (domSet_c p f r b (a + 1) A0 A1 c0 c1 _ (HT.out.ext e_w_w3) HS.out HW.out (HP.out.ext e_w_w3)).mono ?_
    (rintro _ w4 ⟨rfl, hx_⟩; have e_w_w4 : Ext w w4 := Ext.trans (by repeat (first | assumption | exact Ext.refl _ | exact Ext.of_xt _ _ | apply Ext.alloc | apply Ext.drewN | apply Ext.drew)) hx_; have e_w2_w4 : Ext w2 w4 := Ext.trans (by repeat (first | assumption | exact Ext.refl _ | exact Ext.of_xt _ _ | apply Ext.alloc | apply Ext.drewN | apply Ext.drew)) hx_; have e_W0_w4 : Ext W0 w4 := Ext.trans (by repeat (first | assumption | exact Ext.refl _ | exact Ext.of_xt _ _ | apply Ext.alloc | apply Ext.drewN | apply Ext.drew)) hx_; clear hx_)
    rcases HPL.out with ⟨h1, h2⟩ | h1
    · rw [h1]
      cases hq : seB p f r b a with
      | false =>
        generalize seB p f r b (a + 1) = s at *
        clear h1 h2 HPL hq
        go_wp2
        go_ret
        exact ⟨rfl, e_w_w4⟩
      | true =>
        have h3 := h2 hq
        rw [h3]
        clear h1 h2 h3 HPL hq
        go_wp2
        go_ret
        exact ⟨rfl, e_w_w4⟩
    · rw [h1]
      generalize seB p f r b (a + 1) = s at *
      generalize seB p f r b a = t at *
      clear h1 HPL
      go_wp2
      go_ret
      exact ⟨rfl, e_w_w4⟩
end Go.Proofs.YtjbnabjjbofhjaaDoor.Fes
