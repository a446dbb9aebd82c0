/- Package shape: a program's check; how many registers a function has. -/
import Derived.Test.YtjbnabjjbofhjaaDoorW06c
set_option linter.unusedVariables false
set_option linter.unusedSimpArgs false
namespace Go.Proofs.YtjbnabjjbofhjaaDoor.Fes
open Go.RowKit Go.Proofs.YtjbnabjjbofhjaaDoorW.PrintWords

def chkP (p : Prg) : Int := if chkT p.types = 0 then (if belB ((p.funcs.length : Int) - 1) 8 && p.funcs.all (funB p) then 0 else 60) else chkT p.types

/-- What a program lies like. -/
structure AtP (w : World) (p : Prg) (A0 A1 : Option Addr) : Prop where
  ct : Kd.C kTyp w A0 p.types.length p.types
  cf : Kd.C kFc w A1 p.funcs.length p.funcs
theorem AtP.ext {w W : World} {p : Prg} {A0 A1 : Option Addr} (h : AtP w p A0 A1) (he : Ext w W) : AtP W p A0 A1 := ⟨he.C h.ct, he.C h.cf⟩

set_option maxHeartbeats 1000000 in
theorem check1_c (p : Prg) (f : Fc) (A0 A1 B1 : Option Addr) (c0 c1 d1 B : Nat) (w : World) (hT : Tab w) (hs : SmP p) (hw : WfP p) (hf : f ∈ p.funcs)
    (hA : Kd.C kTyp w A0 p.types.length p.types) (hB : Kd.C kBlk w B1 f.blocks.length f.blocks)
    (b0 : ∀ W, Ext w W → W.cell? ⟨B, 0, none⟩ = some (.slice A0 p.types.length c0)) (b1 : ∀ W, Ext w W → W.cell? ⟨B, 1, none⟩ = some (.slice A1 p.funcs.length c1)) :
    Calls Tryd.prog 117 #[vFc f B1 d1, .pointer (some ⟨B, 0, none⟩)] w fun e w' => e = .returned (.bool (!funB p f)) ∧ Ext w w' := by
  have HT := Aside0.mk hT
  have HA := Aside0.mk hA
  have HB := Aside0.mk hB
  have HS := Aside0.mk hs
  have HW := Aside0.mk hw
  have HM := Aside0.mk hf
  clear hT hA hB hs hw hf
  unfold vFc
  go_enter Tryd.func117, Tryd.ntmps117
  go_wp2_with fail
  refine (fun_c p f A0 A1 B1 c0 c1 d1 _ (HT.out.ext (by repeat (first | assumption | exact Ext.refl _ | exact Ext.of_xt _ _ | apply Ext.alloc | apply Ext.drewN | apply Ext.drew))) HS.out.tl HS.out.fl HS.out.tp (HS.out.bl f HM.out) (HS.out.il f HM.out) (HW.out f HM.out) (Ext.C (by repeat (first | assumption | exact Ext.refl _ | exact Ext.of_xt _ _ | apply Ext.alloc | apply Ext.drewN | apply Ext.drew)) HA.out) (Ext.C (by repeat (first | assumption | exact Ext.refl _ | exact Ext.of_xt _ _ | apply Ext.alloc | apply Ext.drewN | apply Ext.drew)) HB.out)).mono ?_
  (rintro _ w1 ⟨rfl, hx_⟩; have e_w_w1 : Ext w w1 := Ext.trans (by repeat (first | assumption | exact Ext.refl _ | exact Ext.of_xt _ _ | apply Ext.alloc | apply Ext.drewN | apply Ext.drew)) hx_; clear hx_)
  go_wp2
  go_ret
  exact ⟨rfl, (by repeat (first | assumption | exact Ext.refl _ | exact Ext.of_xt _ _ | apply Ext.alloc | apply Ext.drewN | apply Ext.drew))⟩

set_option maxHeartbeats 2000000 in
theorem chkP_c (p : Prg) (A0 A1 : Option Addr) (c0 c1 : Nat) (w : World) (hT : Tab w) (hs : SmP p) (hw : WfP p) (hp : AtP w p A0 A1) :
    Calls Tryd.prog 100 #[vPrg p A0 c0 A1 c1] w fun e w' => e = .returned (.int .i64 (chkP p)) ∧ Ext w w' := by
  have HT := Aside0.mk hT
  have HP := Aside0.mk hp
  have HS := Aside0.mk hs
  have HW := Aside0.mk hw
  have hfl := hs.fl
  clear hT hp hs hw
  have hmf : ∀ (fn : Go.Fn) (first cap : Array Value) (w : World), (Instr.makeFunc fn first cap).run Tryd.prog w = .ok (.func fn first cap) w := fun _ _ _ _ => rfl
  unfold vPrg
  go_enter Tryd.func100, Tryd.ntmps100
  go_upto_region 1 with (fail)
  (have e_w_W0 : Ext w (w.alloc (.cells #[.slice A0 p.types.length c0, .slice A1 p.funcs.length c1] 25)) := (by repeat (first | assumption | exact Ext.refl _ | exact Ext.of_xt _ _ | apply Ext.alloc | apply Ext.drewN | apply Ext.drew)); have b_W0_0_0 := stays (w := w.alloc (.cells #[.slice A0 p.types.length c0, .slice A1 p.funcs.length c1] 25)) (a := ⟨w.heap.size, 0, none⟩) (by first | (go_simp; rfl) | rfl); have b_W0_0_1 := stays (w := w.alloc (.cells #[.slice A0 p.types.length c0, .slice A1 p.funcs.length c1] 25)) (a := ⟨w.heap.size, 1, none⟩) (by first | (go_simp; rfl) | rfl); generalize w.alloc (.cells #[.slice A0 p.types.length c0, .slice A1 p.funcs.length c1] 25) = W0 at e_w_W0 b_W0_0_0 b_W0_0_1 ⊢)
  go_wp2_with fail
  refine (chkT_c p.types A0 c0 _ (Ext.C (by repeat (first | assumption | exact Ext.refl _ | exact Ext.of_xt _ _ | apply Ext.alloc | apply Ext.drewN | apply Ext.drew)) HP.out.ct) (fun x hx => Nat.le_trans (HS.out.tp x hx) (by omega))).mono ?_
  (rintro _ w1 ⟨rfl, hx_⟩; have e_w_w1 : Ext w w1 := Ext.trans (by repeat (first | assumption | exact Ext.refl _ | exact Ext.of_xt _ _ | apply Ext.alloc | apply Ext.drewN | apply Ext.drew)) hx_; have e_W0_w1 : Ext W0 w1 := Ext.trans (by repeat (first | assumption | exact Ext.refl _ | exact Ext.of_xt _ _ | apply Ext.alloc | apply Ext.drewN | apply Ext.drew)) hx_; clear hx_)
  by_cases h0 : chkT p.types = 0
  case neg =>
    have HF := Aside0.mk (show chkP p = chkT p.types by unfold chkP; rw [if_neg h0])
    have hne : (chkT p.types != 0) = true := by simp [h0]
    generalize chkT p.types = e at *
    clear h0
    go_wp2
    go_ret
    exact ⟨ret_int HF.out.symm, (by repeat (first | assumption | exact Ext.refl _ | exact Ext.of_xt _ _ | apply Ext.alloc | apply Ext.drewN | apply Ext.drew))⟩
  case pos =>
    have HF := Aside0.mk (show chkP p = if belB ((p.funcs.length : Int) - 1) 8 && p.funcs.all (funB p) then 0 else 60 by unfold chkP; rw [if_pos h0])
    rw [h0]
    clear h0
    go_wp2_with fail
    refine (belB_c _ _ _).mono ?_
    rintro _ _ ⟨rfl, rfl⟩
    cases q0 : belB ((p.funcs.length : Int) - 1) 8 with
    | false =>
      go_wp2
      go_ret
      exact ⟨ret_int (by rw [HF.out, q0]; rfl), (by repeat (first | assumption | exact Ext.refl _ | exact Ext.of_xt _ _ | apply Ext.alloc | apply Ext.drewN | apply Ext.drew))⟩
    | true =>
      go_wp2_with fail
      refine (hasFc_c 117 _ (enters_of Tryd.func117 (by kernel_rfl) rfl) (fun f => !funB p f) A1 c1 p.funcs _ (Ext.C (by repeat (first | assumption | exact Ext.refl _ | exact Ext.of_xt _ _ | apply Ext.alloc | apply Ext.drewN | apply Ext.drew)) HP.out.cf) ?_).mono ?_
      · intro W f cs hf hW hK
        obtain ⟨B1, d1, rfl, lB, gB⟩ := kFc_open hK
        have h0 : Ext W0 W := Ext.trans (by repeat (first | assumption | exact Ext.refl _ | exact Ext.of_xt _ _ | apply Ext.alloc | apply Ext.drewN | apply Ext.drew)) hW
        exact check1_c p f A0 A1 B1 c0 c1 d1 w.heap.size W (HT.out.ext (e_w_W0.trans h0)) HS.out HW.out hf ((e_w_W0.trans h0).C HP.out.ct) gB (fun W' h' => b_W0_0_0 W' (h0.trans h')) (fun W' h' => b_W0_0_1 W' (h0.trans h'))
      · (rintro _ w2 ⟨rfl, hx_⟩; have e_w_w2 : Ext w w2 := Ext.trans (by repeat (first | assumption | exact Ext.refl _ | exact Ext.of_xt _ _ | apply Ext.alloc | apply Ext.drewN | apply Ext.drew)) hx_; clear hx_)
        cases q1 : p.funcs.all (funB p) with
        | false =>
          have ha : p.funcs.any (fun f => !funB p f) = true := by rw [← List.not_all_eq_any_not, q1]; rfl
          rw [ha]
          go_wp2
          go_ret
          exact ⟨ret_int (by rw [HF.out, q0, q1]; rfl), (by repeat (first | assumption | exact Ext.refl _ | exact Ext.of_xt _ _ | apply Ext.alloc | apply Ext.drewN | apply Ext.drew))⟩
        | true =>
          have ha : p.funcs.any (fun f => !funB p f) = false := by rw [← List.not_all_eq_any_not, q1]; rfl
          rw [ha]
          go_wp2
          go_ret
          exact ⟨ret_int (by rw [HF.out, q0, q1]; rfl), (by repeat (first | assumption | exact Ext.refl _ | exact Ext.of_xt _ _ | apply Ext.alloc | apply Ext.drewN | apply Ext.drew))⟩

/-- the type of a function that may be is there -/
theorem funB_sig {p : Prg} {f : Fc} (h : funB p f = true) : 0 ≤ f.sig ∧ f.sig < p.types.length := by
  unfold funB at h
  simp only [Bool.and_eq_true] at h
  exact belB_iff.1 h.1.1.1.1
theorem chkP_funB {p : Prg} (h : chkP p = 0) : ∀ f ∈ p.funcs, funB p f = true := by
  intro f hf
  unfold chkP at h
  split at h
  · split at h
    · rename_i h2
      simp only [Bool.and_eq_true] at h2
      exact List.all_eq_true.1 h2.2 f hf
    · omega
  · rename_i h2; exact absurd h h2
/-- The error of a program and a function, and how many parameters that has. -/
def askP (p : Prg) (f : Int) : Int := if chkP p = 0 then (if belB f p.funcs.length then 0 else 2) else chkP p
def parN (p : Prg) (f : Int) : Int := ((p.types.getD (p.funcs.getD f.toNat zFc).sig.toNat zTyp).parts.length : Int)
def askN (p : Prg) (f : Int) : Int := if askP p f = 0 then parN p f else 0
theorem askP_zero {p : Prg} {f : Int} (h : askP p f = 0) : chkP p = 0 ∧ 0 ≤ f ∧ f < p.funcs.length := by
  unfold askP at h
  split at h
  · rename_i h0
    split at h
    · rename_i h1; exact ⟨h0, belB_iff.1 h1⟩
    · omega
  · rename_i h0; exact absurd h h0

theorem ret_ii {a b c d : Int} (h1 : a = c) (h2 : b = d) : Ending.returned (.tuple #[.int .i64 a, .int .i64 b]) = .returned (.tuple #[.int .i64 c, .int .i64 d]) := by rw [h1, h2]
set_option maxHeartbeats 2000000 in
theorem asked_c (p : Prg) (f : Int) (A0 A1 : Option Addr) (c0 c1 : Nat) (w : World) (hT : Tab w) (hs : SmP p) (hw : WfP p) (hp : AtP w p A0 A1) :
    Calls Tryd.prog 77 #[vPrg p A0 c0 A1 c1, .int .i64 f] w fun e w' => e = .returned (.tuple #[.int .i64 (askN p f), .int .i64 (askP p f)]) ∧ Ext w w' := by
  have HT := Aside0.mk hT
  have HP := Aside0.mk hp
  have HS := Aside0.mk hs
  have HW := Aside0.mk hw
  have hfl := hs.fl
  clear hT hp hs hw
  unfold vPrg
  go_enter Tryd.func77, Tryd.ntmps77
  go_upto_region 1 with (fail)
  (have e_w_W0 : Ext w (w.alloc (.cells #[.slice A0 p.types.length c0, .slice A1 p.funcs.length c1] 25)) := (by repeat (first | assumption | exact Ext.refl _ | exact Ext.of_xt _ _ | apply Ext.alloc | apply Ext.drewN | apply Ext.drew)); have b_W0_0_0 := stays (w := w.alloc (.cells #[.slice A0 p.types.length c0, .slice A1 p.funcs.length c1] 25)) (a := ⟨w.heap.size, 0, none⟩) (by first | (go_simp; rfl) | rfl); have b_W0_0_1 := stays (w := w.alloc (.cells #[.slice A0 p.types.length c0, .slice A1 p.funcs.length c1] 25)) (a := ⟨w.heap.size, 1, none⟩) (by first | (go_simp; rfl) | rfl); generalize w.alloc (.cells #[.slice A0 p.types.length c0, .slice A1 p.funcs.length c1] 25) = W0 at e_w_W0 b_W0_0_0 b_W0_0_1 ⊢)
  go_wp2_with fail
  refine (chkP_c p A0 A1 c0 c1 _ (HT.out.ext (by repeat (first | assumption | exact Ext.refl _ | exact Ext.of_xt _ _ | apply Ext.alloc | apply Ext.drewN | apply Ext.drew))) HS.out HW.out (HP.out.ext (by repeat (first | assumption | exact Ext.refl _ | exact Ext.of_xt _ _ | apply Ext.alloc | apply Ext.drewN | apply Ext.drew)))).mono ?_
  (rintro _ w1 ⟨rfl, hx_⟩; have e_w_w1 : Ext w w1 := Ext.trans (by repeat (first | assumption | exact Ext.refl _ | exact Ext.of_xt _ _ | apply Ext.alloc | apply Ext.drewN | apply Ext.drew)) hx_; have e_W0_w1 : Ext W0 w1 := Ext.trans (by repeat (first | assumption | exact Ext.refl _ | exact Ext.of_xt _ _ | apply Ext.alloc | apply Ext.drewN | apply Ext.drew)) hx_; clear hx_)
  by_cases h0 : chkP p = 0
  case neg =>
    have HF := Aside0.mk (show askP p f = chkP p by unfold askP; rw [if_neg h0])
    have HG := Aside0.mk (show askN p f = 0 by unfold askN; rw [HF.out, if_neg h0])
    have hne : (chkP p != 0) = true := by simp [h0]
    generalize chkP p = e at *
    clear h0
    go_wp2
    go_ret2
    exact ⟨ret_ii HG.out.symm HF.out.symm, (by repeat (first | assumption | exact Ext.refl _ | exact Ext.of_xt _ _ | apply Ext.alloc | apply Ext.drewN | apply Ext.drew))⟩
  case pos =>
    have HF := Aside0.mk (show askP p f = if belB f p.funcs.length then 0 else 2 by unfold askP; rw [if_pos h0])
    have HC := Aside0.mk h0
    rw [h0]
    clear h0
    go_wp2_with fail
    refine (belB_c _ _ _).mono ?_
    rintro _ _ ⟨rfl, rfl⟩
    cases q0 : belB f p.funcs.length with
    | false =>
      have h2 := Aside0.mk (show askP p f = 2 by rw [HF.out, q0]; rfl)
      go_wp2
      go_ret2
      exact ⟨ret_ii (by unfold askN; rw [h2.out]; rfl) h2.out.symm, (by repeat (first | assumption | exact Ext.refl _ | exact Ext.of_xt _ _ | apply Ext.alloc | apply Ext.drewN | apply Ext.drew))⟩
    | true =>
      have h2 := Aside0.mk (show askP p f = 0 by rw [HF.out, q0]; rfl)
      obtain ⟨f0, f1⟩ := belB_iff.1 q0
      obtain ⟨k, rfl⟩ := Int.eq_ofNat_of_zero_le f0
      have hk : k < p.funcs.length := by omega
      obtain ⟨fd, C1, e1, rfl, x0, x1, lx, gx⟩ := at_Fc (e_w_w1.C HP.out.cf) k hk
      obtain ⟨s0, s1⟩ := funB_sig (chkP_funB HC.out _ (List.getElem_mem hk))
      have hgd : p.funcs.getD (Int.toNat (k : Int)) zFc = p.funcs[k] := by simp [List.getD_eq_getElem?_getD, hk]
      have HN := Aside0.mk (show askN p k = ((p.types.getD (p.funcs[k]).sig.toNat zTyp).parts.length : Int) by unfold askN parN; rw [h2.out, if_pos rfl, hgd])
      clear hgd gx lx
      generalize p.funcs[k] = fn at *
      obtain ⟨j, hj⟩ := Int.eq_ofNat_of_zero_le s0
      have hjl : j < p.types.length := by omega
      obtain ⟨td, D3, d3, rfl, y0, y1, y2, y3, ly, gy⟩ := at_Typ (e_w_w1.C HP.out.ct) j hjl
      have HN2 := Aside0.mk (show askN p k = ((p.types[j]).parts.length : Int) by rw [HN.out, hj]; simp [List.getD_eq_getElem?_getD, hjl])
      clear gy ly HN
      generalize p.types[j] = ty at *
      rw [hj] at x0 s1
      clear hj s0
      go_wp2
      go_quiet (fail)
      go_wp2
      go_ret2
      exact ⟨ret_ii HN2.out.symm h2.out.symm, (by repeat (first | assumption | exact Ext.refl _ | exact Ext.of_xt _ _ | apply Ext.alloc | apply Ext.drewN | apply Ext.drew))⟩

def regP (p : Prg) (f : Int) : Int := if askP p f = 0 then regsN p (p.funcs.getD f.toNat zFc) else 0
set_option maxHeartbeats 2000000 in
theorem regs_c (p : Prg) (f : Int) (A0 A1 : Option Addr) (c0 c1 : Nat) (w : World) (hT : Tab w) (hs : SmP p) (hw : WfP p) (hp : AtP w p A0 A1) :
    Calls Tryd.prog 44 #[vPrg p A0 c0 A1 c1, .int .i64 f] w fun e w' => e = .returned (.tuple #[.int .i64 (regP p f), .int .i64 (askP p f)]) ∧ Ext w w' := by
  have HT := Aside0.mk hT
  have HP := Aside0.mk hp
  have HS := Aside0.mk hs
  have HW := Aside0.mk hw
  have hfl := hs.fl
  clear hT hp hs hw
  unfold vPrg
  go_enter Tryd.func44, Tryd.ntmps44
  go_upto_region 1 with (fail)
  (have e_w_W0 : Ext w (w.alloc (.cells #[.slice A0 p.types.length c0, .slice A1 p.funcs.length c1] 25)) := (by repeat (first | assumption | exact Ext.refl _ | exact Ext.of_xt _ _ | apply Ext.alloc | apply Ext.drewN | apply Ext.drew)); have b_W0_0_0 := stays (w := w.alloc (.cells #[.slice A0 p.types.length c0, .slice A1 p.funcs.length c1] 25)) (a := ⟨w.heap.size, 0, none⟩) (by first | (go_simp; rfl) | rfl); have b_W0_0_1 := stays (w := w.alloc (.cells #[.slice A0 p.types.length c0, .slice A1 p.funcs.length c1] 25)) (a := ⟨w.heap.size, 1, none⟩) (by first | (go_simp; rfl) | rfl); generalize w.alloc (.cells #[.slice A0 p.types.length c0, .slice A1 p.funcs.length c1] 25) = W0 at e_w_W0 b_W0_0_0 b_W0_0_1 ⊢)
  go_wp2_with fail
  refine (asked_c p f A0 A1 c0 c1 _ (HT.out.ext (by repeat (first | assumption | exact Ext.refl _ | exact Ext.of_xt _ _ | apply Ext.alloc | apply Ext.drewN | apply Ext.drew))) HS.out HW.out (HP.out.ext (by repeat (first | assumption | exact Ext.refl _ | exact Ext.of_xt _ _ | apply Ext.alloc | apply Ext.drewN | apply Ext.drew)))).mono ?_
  (rintro _ w1 ⟨rfl, hx_⟩; have e_w_w1 : Ext w w1 := Ext.trans (by repeat (first | assumption | exact Ext.refl _ | exact Ext.of_xt _ _ | apply Ext.alloc | apply Ext.drewN | apply Ext.drew)) hx_; have e_W0_w1 : Ext W0 w1 := Ext.trans (by repeat (first | assumption | exact Ext.refl _ | exact Ext.of_xt _ _ | apply Ext.alloc | apply Ext.drewN | apply Ext.drew)) hx_; clear hx_)
  by_cases h0 : askP p f = 0
  case neg =>
    have HG := Aside0.mk (show regP p f = 0 by unfold regP; rw [if_neg h0])
    have hne : (askP p f != 0) = true := by simp [h0]
    generalize hE : askP p f = e at *
    have HE := Aside0.mk hE
    generalize askN p f = m at *
    clear h0 hE
    go_wp2
    go_ret2
    exact ⟨ret_ii HG.out.symm HE.out.symm, (by repeat (first | assumption | exact Ext.refl _ | exact Ext.of_xt _ _ | apply Ext.alloc | apply Ext.drewN | apply Ext.drew))⟩
  case pos =>
    obtain ⟨hc, f0, f1⟩ := askP_zero h0
    obtain ⟨k, rfl⟩ := Int.eq_ofNat_of_zero_le f0
    have hk : k < p.funcs.length := by omega
    have hgd : p.funcs.getD (Int.toNat (k : Int)) zFc = p.funcs[k] := by simp [List.getD_eq_getElem?_getD, hk]
    have hrn : regP p k = askN p k + manyN (p.funcs[k]).blocks := by unfold regP askN parN regsN; rw [if_pos h0, if_pos h0, hgd]
    have hmn := HS.out.il _ (List.getElem_mem hk)
    have hbd : 0 ≤ askN p k ∧ askN p k ≤ 20 := by
      obtain ⟨s0, s1⟩ := funB_sig (chkP_funB hc _ (List.getElem_mem hk))
      have := HS.out.tp _ (show p.types[(p.funcs[k]).sig.toNat]'(by omega) ∈ p.types from List.getElem_mem _)
      unfold askN parN
      rw [if_pos h0, hgd, List.getD_eq_getElem?_getD, List.getElem?_eq_getElem (by omega)]
      simp only [Option.getD_some]
      omega
    obtain ⟨fd, C1, e1, rfl, x0, x1, lx, gx⟩ := at_Fc (e_w_w1.C HP.out.cf) k hk
    have GX := Aside0.mk gx
    have HR := Aside0.mk hrn
    have H0 := Aside0.mk h0
    rw [h0]
    clear hgd gx lx hrn hc h0 f0
    generalize p.funcs[k] = fn at *
    generalize askN p k = m at *
    go_wp2_with fail
    refine (many_c fn.sig fn.blocks C1 e1 _ (Ext.C (by repeat (first | assumption | exact Ext.refl _ | exact Ext.of_xt _ _ | apply Ext.alloc | apply Ext.drewN | apply Ext.drew)) GX.out) (by omega)).mono ?_
    (rintro _ w2 ⟨rfl, hx_⟩; have e_w_w2 : Ext w w2 := Ext.trans (by repeat (first | assumption | exact Ext.refl _ | exact Ext.of_xt _ _ | apply Ext.alloc | apply Ext.drewN | apply Ext.drew)) hx_; clear hx_)
    go_wp2
    go_ret2
    exact ⟨ret_ii (by rw [HR.out]) H0.out.symm, (by repeat (first | assumption | exact Ext.refl _ | exact Ext.of_xt _ _ | apply Ext.alloc | apply Ext.drewN | apply Ext.drew))⟩
end Go.Proofs.YtjbnabjjbofhjaaDoor.Fes
