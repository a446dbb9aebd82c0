/- Package flow: where a block goes to, and what goes to it. -/
import Derived.Test.YtjbnabjjbofhjaaDoorW06d
import Derived.Test.YtjbnabjjbofhjaaDoorOwn
import Derived.Lib.SliceRun
set_option linter.unusedVariables false
set_option linter.unusedSimpArgs false
namespace Go.Proofs.YtjbnabjjbofhjaaDoor.Fes
open Go.RowKit Go.Proofs.YtjbnabjjbofhjaaDoorW.PrintWords

def fnP (p : Prg) (f : Int) : Fc := p.funcs.getD f.toNat zFc
/-- the error of a program, a function and a block -/
def flE (p : Prg) (f b : Int) : Int := if askP p f = 0 then (if belB b (fnP p f).blocks.length then 0 else 2) else askP p f
theorem flE_zero {p : Prg} {f b : Int} (h : flE p f b = 0) : chkP p = 0 ∧ (0 ≤ f ∧ f < p.funcs.length) ∧ 0 ≤ b ∧ b < (fnP p f).blocks.length := by
  unfold flE at h
  split at h
  · rename_i h0
    obtain ⟨h1, h2, h3⟩ := askP_zero h0
    split at h
    · rename_i h4; exact ⟨h1, ⟨h2, h3⟩, belB_iff.1 h4⟩
    · omega
  · rename_i h0; exact absurd h h0
theorem flE_ask {p : Prg} {f b : Int} (h : flE p f b = 0) : askP p f = 0 := by
  unfold flE at h
  split at h
  · assumption
  · rename_i h0; exact absurd h h0
theorem fnP_at {p : Prg} {k : Nat} (hk : k < p.funcs.length) : fnP p k = p.funcs[k] := by simp [fnP, List.getD_eq_getElem?_getD, hk]
theorem ret_si {A : Option Addr} {n c : Nat} {a b : Int} (h : a = b) : Ending.returned (.tuple #[.slice A n c, .int .i64 a]) = .returned (.tuple #[.slice A n c, .int .i64 b]) := by rw [h]
theorem ret_vi {v : Value} {a b : Int} (h : a = b) : Ending.returned (.tuple #[v, .int .i64 a]) = .returned (.tuple #[v, .int .i64 b]) := by rw [h]

section
variable (p : Prg) (f b : Int) (A0 A1 : Option Addr) (c0 c1 : Nat) (w : World)
set_option maxHeartbeats 2000000 in
theorem flAsk_no (h : flE p f b ≠ 0) (hT : Tab w) (hs : SmP p) (hw : WfP p) (hp : AtP w p A0 A1) :
    Calls Tryd.prog 54 #[vPrg p A0 c0 A1 c1, .int .i64 f, .int .i64 b] w fun e w' => e = .returned (.tuple #[.slice none 0 0, .int .i64 (flE p f b)]) ∧ Ext w w' := by
  have HT := Aside0.mk hT
  have HP := Aside0.mk hp
  have HS := Aside0.mk hs
  have HW := Aside0.mk hw
  have HN := Aside0.mk h
  have hfl := hs.fl
  clear hT hp hs hw h
  unfold vPrg
  go_enter Tryd.func54, Tryd.ntmps54
  go_upto_region 1 with (fail)
  (have e_w_W0 : Ext w (w.alloc (.cells #[.slice A0 p.types.length c0, .slice A1 p.funcs.length c1] 25)) := (by repeat (first | assumption | exact Ext.refl _ | exact Ext.of_xt _ _ | apply Ext.alloc | apply Ext.drewN | apply Ext.drew)); have b_W0_0_0 := stays (w := w.alloc (.cells #[.slice A0 p.types.length c0, .slice A1 p.funcs.length c1] 25)) (a := ⟨w.heap.size, 0, none⟩) (by first | (go_simp; rfl) | rfl); have b_W0_0_1 := stays (w := w.alloc (.cells #[.slice A0 p.types.length c0, .slice A1 p.funcs.length c1] 25)) (a := ⟨w.heap.size, 1, none⟩) (by first | (go_simp; rfl) | rfl); generalize w.alloc (.cells #[.slice A0 p.types.length c0, .slice A1 p.funcs.length c1] 25) = W0 at e_w_W0 b_W0_0_0 b_W0_0_1 ⊢)
  go_wp2_with fail
  refine (regs_c p f A0 A1 c0 c1 _ (HT.out.ext (by repeat (first | assumption | exact Ext.refl _ | exact Ext.of_xt _ _ | apply Ext.alloc | apply Ext.drewN | apply Ext.drew))) HS.out HW.out (HP.out.ext (by repeat (first | assumption | exact Ext.refl _ | exact Ext.of_xt _ _ | apply Ext.alloc | apply Ext.drewN | apply Ext.drew)))).mono ?_
  (rintro _ w1 ⟨rfl, hx_⟩; have e_w_w1 : Ext w w1 := Ext.trans (by repeat (first | assumption | exact Ext.refl _ | exact Ext.of_xt _ _ | apply Ext.alloc | apply Ext.drewN | apply Ext.drew)) hx_; have e_W0_w1 : Ext W0 w1 := Ext.trans (by repeat (first | assumption | exact Ext.refl _ | exact Ext.of_xt _ _ | apply Ext.alloc | apply Ext.drewN | apply Ext.drew)) hx_; clear hx_)
  by_cases h0 : askP p f = 0
  case neg =>
    have HG := Aside0.mk (show flE p f b = askP p f by unfold flE; rw [if_neg h0])
    have hne : (askP p f != 0) = true := by simp [h0]
    generalize hE : askP p f = e at *
    replace hE := Aside0.mk hE
    generalize regP p f = m at *
    clear h0
    go_wp2
    go_ret2
    exact ⟨ret_si HG.out.symm, (by repeat (first | assumption | exact Ext.refl _ | exact Ext.of_xt _ _ | apply Ext.alloc | apply Ext.drewN | apply Ext.drew))⟩
  case pos =>
    obtain ⟨hc, f0, f1⟩ := askP_zero h0
    obtain ⟨k, rfl⟩ := Int.eq_ofNat_of_zero_le f0
    have hk : k < p.funcs.length := by omega
    have HG := Aside0.mk (show flE p k b = if belB b (p.funcs[k]).blocks.length then 0 else 2 by unfold flE; rw [if_pos h0, fnP_at hk])
    have hb : belB b (p.funcs[k]).blocks.length = false := by
      cases hq : belB b (p.funcs[k]).blocks.length with
      | false => rfl
      | true => exact absurd (by rw [HG.out, hq]; rfl) HN.out
    have HB := Aside0.mk (belB_not.1 hb)
    have HG2 := Aside0.mk (show flE p k b = 2 by rw [HG.out, hb]; rfl)
    obtain ⟨fd, C1, e1, rfl, x0, x1, lx, gx⟩ := at_Fc (e_w_w1.C HP.out.cf) k hk
    rw [h0]
    clear lx gx hc h0 f0 hb HG
    generalize p.funcs[k] = fn at *
    generalize regP p k = m at *
    by_cases hb0 : b < 0
    · go_wp2
      go_ret2
      exact ⟨ret_si HG2.out.symm, (by repeat (first | assumption | exact Ext.refl _ | exact Ext.of_xt _ _ | apply Ext.alloc | apply Ext.drewN | apply Ext.drew))⟩
    · have hb1 : (fn.blocks.length : Int) ≤ b := by have := HB.out; omega
      go_wp2
      go_ret2
      exact ⟨ret_si HG2.out.symm, (by repeat (first | assumption | exact Ext.refl _ | exact Ext.of_xt _ _ | apply Ext.alloc | apply Ext.drewN | apply Ext.drew))⟩

set_option maxHeartbeats 2000000 in
theorem flAsk_yes (h : flE p f b = 0) (hT : Tab w) (hs : SmP p) (hw : WfP p) (hp : AtP w p A0 A1) :
    Calls Tryd.prog 54 #[vPrg p A0 c0 A1 c1, .int .i64 f, .int .i64 b] w fun e w' => ∃ B1 d1, e = .returned (.tuple #[.slice B1 (fnP p f).blocks.length d1, .int .i64 0]) ∧ Kd.C kBlk w B1 (fnP p f).blocks.length (fnP p f).blocks ∧ (fnP p f).blocks.length ≤ d1 ∧ Ext w w' := by
  have HT := Aside0.mk hT
  have HP := Aside0.mk hp
  have HS := Aside0.mk hs
  have HW := Aside0.mk hw
  obtain ⟨hc, ⟨f0, f1⟩, b0, b1⟩ := flE_zero h
  have h0 := flE_ask h
  have hfl := hs.fl
  clear hT hp hs hw h
  obtain ⟨k, rfl⟩ := Int.eq_ofNat_of_zero_le f0
  have hk : k < p.funcs.length := by omega
  rw [fnP_at hk] at b1 ⊢
  obtain ⟨fd, C1, e1, rfl, x0, x1, lx, gx⟩ := at_Fc HP.out.cf k hk
  have GX := Aside0.mk gx
  clear hc f0 gx
  generalize p.funcs[k] = fn at *
  unfold vPrg
  go_enter Tryd.func54, Tryd.ntmps54
  go_upto_region 1 with (fail)
  (have e_w_W0 : Ext w (w.alloc (.cells #[.slice A0 p.types.length c0, .slice (some fd) p.funcs.length c1] 25)) := (by repeat (first | assumption | exact Ext.refl _ | exact Ext.of_xt _ _ | apply Ext.alloc | apply Ext.drewN | apply Ext.drew)); have b_W0_0_0 := stays (w := w.alloc (.cells #[.slice A0 p.types.length c0, .slice (some fd) p.funcs.length c1] 25)) (a := ⟨w.heap.size, 0, none⟩) (by first | (go_simp; rfl) | rfl); have b_W0_0_1 := stays (w := w.alloc (.cells #[.slice A0 p.types.length c0, .slice (some fd) p.funcs.length c1] 25)) (a := ⟨w.heap.size, 1, none⟩) (by first | (go_simp; rfl) | rfl); generalize w.alloc (.cells #[.slice A0 p.types.length c0, .slice (some fd) p.funcs.length c1] 25) = W0 at e_w_W0 b_W0_0_0 b_W0_0_1 ⊢)
  go_wp2_with fail
  refine (regs_c p k A0 (some fd) c0 c1 _ (HT.out.ext (by repeat (first | assumption | exact Ext.refl _ | exact Ext.of_xt _ _ | apply Ext.alloc | apply Ext.drewN | apply Ext.drew))) HS.out HW.out (HP.out.ext (by repeat (first | assumption | exact Ext.refl _ | exact Ext.of_xt _ _ | apply Ext.alloc | apply Ext.drewN | apply Ext.drew)))).mono ?_
  (rintro _ w1 ⟨rfl, hx_⟩; have e_w_w1 : Ext w w1 := Ext.trans (by repeat (first | assumption | exact Ext.refl _ | exact Ext.of_xt _ _ | apply Ext.alloc | apply Ext.drewN | apply Ext.drew)) hx_; have e_W0_w1 : Ext W0 w1 := Ext.trans (by repeat (first | assumption | exact Ext.refl _ | exact Ext.of_xt _ _ | apply Ext.alloc | apply Ext.drewN | apply Ext.drew)) hx_; clear hx_)
  rw [h0]
  clear h0
  generalize regP p k = m at *
  go_wp2
  go_ret2
  exact ⟨C1, e1, rfl, GX.out, lx, (by repeat (first | assumption | exact Ext.refl _ | exact Ext.of_xt _ _ | apply Ext.alloc | apply Ext.drewN | apply Ext.drew))⟩

/-- where an end goes to -/
def toE (x : En) : List Int := if x.kind = 1 then [x.to] else if x.kind = 2 then (if x.to = x.els then [x.to] else [x.to, x.els]) else []
theorem zeroInt (w : World) : (zeroValue 3).run Tryd.prog w = .ok (.int .i64 0) w := by kernel_rfl
theorem toE_len (x : En) : (toE x).length ≤ 2 := by
  unfold toE
  split
  · simp
  · split
    · split <;> simp
    · simp

def cmpL (x y : Int) : List Int := if x = y then [x] else [x, y]
theorem own2 {w W V : World} {g : Nat} {x y : Int} (hb : W.heap[g]? = some (.cells #[.int .i64 x, .int .i64 y] 3 (0, 0))) (hge : w.heap.size ≤ g) (hx : Ext W V) : OwnI w V (.slice (some ⟨g, 0, none⟩) 2 2) [x, y] := by
  refine Kd.R_of_own ?_ (fun _ _ => trivial)
  refine ⟨rfl, .inr ⟨g, 2, _, rfl, hge, hx.blk hb, Nat.le_refl _, by decide, rfl, rfl⟩⟩
theorem own1 {w W V : World} {g : Nat} {x y : Int} (hb : W.heap[g]? = some (.cells #[.int .i64 x, .int .i64 y] 3 (0, 0))) (hge : w.heap.size ≤ g) (hx : Ext W V) : OwnI w V (.slice (some ⟨g, 0, none⟩) 1 2) [x] := by
  refine Kd.R_of_own ?_ (fun _ _ => trivial)
  refine ⟨rfl, .inr ⟨g, 2, _, rfl, hge, hx.blk hb, by simp, by decide, rfl, rfl⟩⟩
set_option maxRecDepth 100000 in
set_option maxHeartbeats 2000000 in
theorem compact_c (x y : Int) :
    Calls Tryd.prog 81 #[.slice (some ⟨w.heap.size, 0, none⟩) 2 2] (w.alloc (.cells #[.int .i64 x, .int .i64 y] 3)) fun e w' => ∃ v, e = .returned v ∧ OwnI w w' v (cmpL x y) ∧ Ext w w' := by
  have hb := heap_new w (.cells #[.int .i64 x, .int .i64 y] 3)
  have e_w_W : Ext w (w.alloc (.cells #[.int .i64 x, .int .i64 y] 3)) := (by repeat (first | assumption | exact Ext.refl _ | exact Ext.of_xt _ _ | apply Ext.alloc | apply Ext.drewN | apply Ext.drew))
  obtain ⟨g, hg⟩ : ∃ g, g = w.heap.size := ⟨_, rfl⟩
  rw [← hg] at hb
  rw [← hg]
  have hge : w.heap.size ≤ g := by omega
  generalize w.alloc (.cells #[.int .i64 x, .int .i64 y] 3) = W at hb e_w_W ⊢
  clear hg
  have k0 : ∀ V, Ext W V → V.cell? ⟨g, 0, none⟩ = some (.int .i64 x) := stays (blk_cell hb 0)
  have k1 : ∀ V, Ext W V → V.cell? ⟨g, 1, none⟩ = some (.int .i64 y) := stays (blk_cell hb 1)
  have hcl : ∀ (V : World) (ty : TypeId), Ext W V → (Builtin.clear_ #[28] ty #[.slice (some ⟨g, 1, none⟩) 1 1]).run Tryd.prog V = .ok (.tuple #[]) (V.setCell ⟨g, 1, none⟩ (.int .i64 0)) := by
    intro V ty hV
    have hbv := hV.blk hb
    have h1 : ∀ j, j < 1 → (V.cell? ⟨g, 1 + j, none⟩).isSome = true := by
      intro j hj
      obtain rfl : j = 0 := by omega
      exact (congrArg Option.isSome (blk_cell hbv 1)).trans rfl
    have h2 : ∀ j, j < 1 → V.frozen? ⟨g, 1 + j, none⟩ = false := by
      intro j hj
      obtain rfl : j = 0 := by omega
      exact blk_frozen hbv 1
    exact Lib.run_clear_slice V 28 3 ty (.int .i64 0) Tryd.underlying28 zeroInt rfl rfl g 1 1 1 (by omega) h1 h2
  have HB := Aside0.mk hb
  have HCL := Aside0.mk hcl
  clear hb hcl
  go_enter Tryd.func81, Tryd.ntmps81
  go_wp2
  go_loopw [3] (fun k wr => (k = .int .i64 1 ∧ Ext W wr) ∨ (k = .int .i64 2 ∧ Aside0 (x ≠ y) ∧ Ext W wr)) (fun k _ => 3 - (intOf k).toNat)
  case atStart => exact .inl ⟨rfl, (by repeat (first | assumption | exact Ext.refl _ | exact Ext.of_xt _ _ | apply Ext.alloc | apply Ext.drewN | apply Ext.drew))⟩
  case round =>
    rcases hrel with ⟨rfl, hx⟩ | ⟨rfl, hne, hx⟩
    · have e_w_wr : Ext w wr := e_w_W.trans hx
      by_cases hxy : x = y
      · have hxb : (y == x) = true := by simp [hxy]
        subst hxy
        go_wp2
        go_quiet (fail)
        go_wp2
        have hc : ∀ m, (Builtin.clear_ #[28] 0 #[.slice (some ⟨g, 1, none⟩) 1 1]).run Tryd.prog (wr.drewN m) = .ok (.tuple #[]) ((wr.drewN m).setCell ⟨g, 1, none⟩ (.int .i64 0)) := fun m => HCL.out _ 0 (hx.drewN m)
        refine wp_loop_rounds 1 ?_
        rw [rounds_succ]
        go_wp2
        go_ret
        refine ⟨.slice (some ⟨g, 0, none⟩) 1 2, rfl, ?_, Ext.set (Ext.drewN e_w_wr _) hge _⟩
        rw [show cmpL x x = [x] by unfold cmpL; rw [if_pos rfl]]
        exact own1 (blk_set ((hx.drewN _).blk HB.out) 1 (.int .i64 0)) hge (Ext.refl _)
      · have hxb : (y == x) = false := by simp; exact fun e => hxy e.symm
        go_wp2
        go_quiet (fail)
        go_wp2
        go_roundw
        case rel => exact .inr ⟨by go_num, ⟨hxy⟩, (by repeat (first | assumption | exact Ext.refl _ | exact Ext.of_xt _ _ | apply Ext.alloc | apply Ext.drewN | apply Ext.drew))⟩
        case measure => simp [intOf]
    · have e_w_wr : Ext w wr := e_w_W.trans hx
      go_wp2
      go_ret
      refine ⟨.slice (some ⟨g, 0, none⟩) 2 2, rfl, ?_, e_w_wr⟩
      rw [show cmpL x y = [x, y] by unfold cmpL; rw [if_neg hne.out]]
      exact own2 HB.out hge hx

set_option maxHeartbeats 2000000 in
theorem next_c (x : En) : Calls Tryd.prog 55 #[vEn x] w fun e w' => ∃ v, e = .returned v ∧ OwnI w w' v (toE x) ∧ Ext w w' := by
  unfold vEn
  by_cases h1 : x.kind = 1
  · have HF := Aside0.mk (show toE x = [x.to] by unfold toE; rw [if_pos h1])
    go_enter Tryd.func55, Tryd.ntmps55
    go_upto_region 1 with (fail)
    (have e_w_W0 : Ext w (w.alloc (.cells #[.int .u8 1, .int .i64 x.a, .int .i64 x.to, .int .i64 x.els] 45)) := (by repeat (first | assumption | exact Ext.refl _ | exact Ext.of_xt _ _ | apply Ext.alloc | apply Ext.drewN | apply Ext.drew)); have b_W0_0_0 := stays (w := w.alloc (.cells #[.int .u8 1, .int .i64 x.a, .int .i64 x.to, .int .i64 x.els] 45)) (a := ⟨w.heap.size, 0, none⟩) (by first | (go_simp; rfl) | rfl); have b_W0_0_1 := stays (w := w.alloc (.cells #[.int .u8 1, .int .i64 x.a, .int .i64 x.to, .int .i64 x.els] 45)) (a := ⟨w.heap.size, 1, none⟩) (by first | (go_simp; rfl) | rfl); have b_W0_0_2 := stays (w := w.alloc (.cells #[.int .u8 1, .int .i64 x.a, .int .i64 x.to, .int .i64 x.els] 45)) (a := ⟨w.heap.size, 2, none⟩) (by first | (go_simp; rfl) | rfl); have b_W0_0_3 := stays (w := w.alloc (.cells #[.int .u8 1, .int .i64 x.a, .int .i64 x.to, .int .i64 x.els] 45)) (a := ⟨w.heap.size, 3, none⟩) (by first | (go_simp; rfl) | rfl); generalize w.alloc (.cells #[.int .u8 1, .int .i64 x.a, .int .i64 x.to, .int .i64 x.els] 45) = W0 at e_w_W0 b_W0_0_0 b_W0_0_1 b_W0_0_2 b_W0_0_3 ⊢)
    go_wp2
    go_ret
    refine ⟨.slice (some ⟨W0.heap.size, 0, none⟩) 1 1, rfl, ?_, (by repeat (first | assumption | exact Ext.refl _ | exact Ext.of_xt _ _ | apply Ext.alloc | apply Ext.drewN | apply Ext.drew))⟩
    rw [HF.out]
    exact OwnI.lit e_w_W0 [x.to] (by simp)
  · by_cases h2 : x.kind = 2
    · have HF := Aside0.mk (show toE x = cmpL x.to x.els by unfold toE cmpL; rw [if_neg h1, if_pos h2])
      go_enter Tryd.func55, Tryd.ntmps55
      go_upto_region 1 with (fail)
      (have e_w_W0 : Ext w (w.alloc (.cells #[.int .u8 2, .int .i64 x.a, .int .i64 x.to, .int .i64 x.els] 45)) := (by repeat (first | assumption | exact Ext.refl _ | exact Ext.of_xt _ _ | apply Ext.alloc | apply Ext.drewN | apply Ext.drew)); have b_W0_0_0 := stays (w := w.alloc (.cells #[.int .u8 2, .int .i64 x.a, .int .i64 x.to, .int .i64 x.els] 45)) (a := ⟨w.heap.size, 0, none⟩) (by first | (go_simp; rfl) | rfl); have b_W0_0_1 := stays (w := w.alloc (.cells #[.int .u8 2, .int .i64 x.a, .int .i64 x.to, .int .i64 x.els] 45)) (a := ⟨w.heap.size, 1, none⟩) (by first | (go_simp; rfl) | rfl); have b_W0_0_2 := stays (w := w.alloc (.cells #[.int .u8 2, .int .i64 x.a, .int .i64 x.to, .int .i64 x.els] 45)) (a := ⟨w.heap.size, 2, none⟩) (by first | (go_simp; rfl) | rfl); have b_W0_0_3 := stays (w := w.alloc (.cells #[.int .u8 2, .int .i64 x.a, .int .i64 x.to, .int .i64 x.els] 45)) (a := ⟨w.heap.size, 3, none⟩) (by first | (go_simp; rfl) | rfl); generalize w.alloc (.cells #[.int .u8 2, .int .i64 x.a, .int .i64 x.to, .int .i64 x.els] 45) = W0 at e_w_W0 b_W0_0_0 b_W0_0_1 b_W0_0_2 b_W0_0_3 ⊢)
      go_wp2_with fail
      refine (compact_c W0 x.to x.els).mono ?_
      rintro e w1 ⟨v, rfl, hv, hx⟩
      have HV := Aside0.mk hv
      clear hv
      go_wp2
      go_ret
      refine ⟨v, rfl, ?_, e_w_W0.trans hx⟩
      rw [HF.out]
      exact OwnS.lower HV.out e_w_W0
    · have HF := Aside0.mk (show toE x = [] by unfold toE; rw [if_neg h1, if_neg h2])
      go_enter Tryd.func55, Tryd.ntmps55
      go_wp2
      go_ret
      exact ⟨_, rfl, by rw [HF.out]; exact OwnI.nil _ _, (by repeat (first | assumption | exact Ext.refl _ | exact Ext.of_xt _ _ | apply Ext.alloc | apply Ext.drewN | apply Ext.drew))⟩

theorem contains_at (xs : List Int) (y : Int) (k : Nat) (h : k < xs.length) (he : xs[k] = y) : xs.contains y = true := by
  rw [List.contains_eq_mem, decide_eq_true_eq]; exact he ▸ List.getElem_mem h
theorem contains_none (xs : List Int) (y : Int) (k : Nat) (hk : xs.length ≤ k) (h : ∀ j (hj : j < xs.length), j < k → xs[j] ≠ y) : xs.contains y = false := by
  rw [List.contains_eq_mem, decide_eq_false_iff_not]
  intro hm
  obtain ⟨i, hi, he⟩ := List.getElem_of_mem hm
  exact h i hi (by omega) he
def IdxPost (xs : List Int) (y : Int) (w : World) (e : Ending) (w' : World) : Prop := ∃ n : Int, e = .returned (.int .i64 n) ∧ (decide (0 ≤ n)) = xs.contains y ∧ w = w'
set_option maxHeartbeats 1000000 in
theorem index_c (xs : List Int) (y : Int) (A : Option Addr) (c : Nat) (hA : Kd.C (Kd.int .i64) w A xs.length xs) :
    Calls Tryd.prog 83 #[.slice A xs.length c, .int .i64 y] w (IdxPost xs y w) := by
  have HA := Aside0.mk hA
  have hlen : xs.length ≤ 9223372036854775807 := hA.2.1
  clear hA
  go_enter Tryd.func83, Tryd.ntmps83
  go_wp2
  go_loop [8] (fun i => ∃ k : Nat, k ≤ xs.length ∧ i = .int .i64 k ∧ Aside0 (∀ j (hj : j < xs.length), j < k → xs[j] ≠ y)) (fun i => xs.length - (intOf i).toNat)
  case atStart => exact ⟨0, by omega, rfl, ⟨fun j hj h => absurd h (by omega)⟩⟩
  case round =>
    obtain ⟨k, hk, rfl, hpre⟩ := hrel
    by_cases hlt : k < xs.length
    · obtain ⟨ad, rfl, a0⟩ := at_int HA.out k hlt
      have a0 := a0 w (Ext.refl w)
      by_cases he : xs[k] = y
      · have HC := Aside0.mk (contains_at xs y k hlt he)
        have hb : (y == xs[k]) = true := by simp [he]
        generalize xs[k] = x at *
        clear he hpre
        go_wp2
        go_ret
        exact ⟨k, rfl, by rw [HC.out]; simp, rfl⟩
      · have hb : (y == xs[k]) = false := by simp; exact fun e => he e.symm
        have HN := Aside0.mk (show ∀ j (hj : j < xs.length), j < k + 1 → xs[j] ≠ y by
          intro j hj hjk
          rcases Nat.lt_or_ge j k with h | h
          · exact hpre.out j hj h
          · obtain rfl : j = k := by omega
            exact he)
        generalize xs[k] = x at *
        clear he hpre
        go_wp2
        go_round
        case rel => exact ⟨k + 1, by omega, by go_num, HN⟩
        case measure => simp [intOf]; omega
    · have HC := Aside0.mk (contains_none xs y k (by omega) hpre.out)
      clear hpre
      go_wp2
      go_ret
      exact ⟨-1, rfl, by rw [HC.out]; simp, rfl⟩
set_option maxHeartbeats 1000000 in
theorem cont_c (xs : List Int) (y : Int) (A : Option Addr) (c : Nat) (hA : Kd.C (Kd.int .i64) w A xs.length xs) :
    Calls Tryd.prog 58 #[.slice A xs.length c, .int .i64 y] w fun e w' => e = .returned (.bool (xs.contains y)) ∧ w = w' := by
  have HA := Aside0.mk hA
  clear hA
  go_enter Tryd.func58, Tryd.ntmps58
  go_wp2_with fail
  refine (index_c _ xs y A c HA.out).mono ?_
  rintro e w' ⟨n, rfl, hn, rfl⟩
  have HN := Aside0.mk hn
  clear hn
  go_wp2
  go_ret
  exact ⟨ret_bool (by rw [← HN.out]), rfl⟩

/-- where a block goes to -/
def nxP (p : Prg) (f b : Int) : List Int := if flE p f b = 0 then toE ((fnP p f).blocks.getD b.toNat zBlk).en else []
set_option maxHeartbeats 2000000 in
theorem flNext_c (p : Prg) (f b : Int) (A0 A1 : Option Addr) (c0 c1 : Nat) (hT : Tab w) (hs : SmP p) (hw : WfP p) (hp : AtP w p A0 A1) :
    Calls Tryd.prog 19 #[vPrg p A0 c0 A1 c1, .int .i64 f, .int .i64 b] w fun e w' => ∃ v, e = .returned (.tuple #[v, .int .i64 (flE p f b)]) ∧ OwnI w w' v (nxP p f b) ∧ Ext w w' := by
  have HT := Aside0.mk hT
  have HP := Aside0.mk hp
  have HS := Aside0.mk hs
  have HW := Aside0.mk hw
  clear hT hp hs hw
  unfold vPrg
  go_enter Tryd.func19, Tryd.ntmps19
  go_upto_region 1 with (fail)
  (have e_w_W0 : Ext w (w.alloc (.cells #[.slice A0 p.types.length c0, .slice A1 p.funcs.length c1] 25)) := (by repeat (first | assumption | exact Ext.refl _ | exact Ext.of_xt _ _ | apply Ext.alloc | apply Ext.drewN | apply Ext.drew)); have b_W0_0_0 := stays (w := w.alloc (.cells #[.slice A0 p.types.length c0, .slice A1 p.funcs.length c1] 25)) (a := ⟨w.heap.size, 0, none⟩) (by first | (go_simp; rfl) | rfl); have b_W0_0_1 := stays (w := w.alloc (.cells #[.slice A0 p.types.length c0, .slice A1 p.funcs.length c1] 25)) (a := ⟨w.heap.size, 1, none⟩) (by first | (go_simp; rfl) | rfl); generalize w.alloc (.cells #[.slice A0 p.types.length c0, .slice A1 p.funcs.length c1] 25) = W0 at e_w_W0 b_W0_0_0 b_W0_0_1 ⊢)
  go_wp2_with fail
  by_cases h0 : flE p f b = 0
  · refine (flAsk_yes p f b A0 A1 c0 c1 _ h0 (HT.out.ext (by repeat (first | assumption | exact Ext.refl _ | exact Ext.of_xt _ _ | apply Ext.alloc | apply Ext.drewN | apply Ext.drew))) HS.out HW.out (HP.out.ext (by repeat (first | assumption | exact Ext.refl _ | exact Ext.of_xt _ _ | apply Ext.alloc | apply Ext.drewN | apply Ext.drew)))).mono ?_
    rintro _ w1 ⟨B1, d1, rfl, hC, hcl, hx_⟩
    have e_w_w1 : Ext w w1 := Ext.trans (by repeat (first | assumption | exact Ext.refl _ | exact Ext.of_xt _ _ | apply Ext.alloc | apply Ext.drewN | apply Ext.drew)) hx_
    have e_W0_w1 := hx_
    have HC := Aside0.mk hC
    obtain ⟨_, _, b0, b1⟩ := flE_zero h0
    obtain ⟨k, rfl⟩ := Int.eq_ofNat_of_zero_le b0
    have hk : k < (fnP p f).blocks.length := by omega
    have HX := Aside0.mk (show nxP p f k = toE ((fnP p f).blocks[k]).en by unfold nxP; rw [if_pos h0]; simp [List.getD_eq_getElem?_getD, hk])
    have H0 := Aside0.mk h0
    clear hC hx_ h0 b0
    generalize (fnP p f).blocks = bs at *
    obtain ⟨bd, D0, d0, rfl, y0, y1, y2, y3, y4, ly, gy⟩ := at_Blk (e_W0_w1.C HC.out) k hk
    clear ly gy
    generalize bs[k] = bl at *
    go_wp2_with fail
    refine (next_c _ bl.en).mono ?_
    rintro _ w2 ⟨v2, rfl, hv2, hx_⟩
    have HV2 := Aside0.mk (OwnS.lower hv2 e_w_w1)
    have e_w_w2 : Ext w w2 := Ext.trans e_w_w1 hx_
    clear hv2 hx_
    go_wp2
    go_ret2
    exact ⟨_, ret_vi H0.out.symm, by rw [HX.out]; exact HV2.out, e_w_w2⟩
  · refine (flAsk_no p f b A0 A1 c0 c1 _ h0 (HT.out.ext (by repeat (first | assumption | exact Ext.refl _ | exact Ext.of_xt _ _ | apply Ext.alloc | apply Ext.drewN | apply Ext.drew))) HS.out HW.out (HP.out.ext (by repeat (first | assumption | exact Ext.refl _ | exact Ext.of_xt _ _ | apply Ext.alloc | apply Ext.drewN | apply Ext.drew)))).mono ?_
    (rintro _ w1 ⟨rfl, hx_⟩; have e_w_w1 : Ext w w1 := Ext.trans (by repeat (first | assumption | exact Ext.refl _ | exact Ext.of_xt _ _ | apply Ext.alloc | apply Ext.drewN | apply Ext.drew)) hx_; have e_W0_w1 : Ext W0 w1 := Ext.trans (by repeat (first | assumption | exact Ext.refl _ | exact Ext.of_xt _ _ | apply Ext.alloc | apply Ext.drewN | apply Ext.drew)) hx_; clear hx_)
    have HX := Aside0.mk (show nxP p f b = [] by unfold nxP; rw [if_neg h0])
    have hne : (flE p f b != 0) = true := by simp [h0]
    generalize hE : flE p f b = e at *
    have HE := Aside0.mk hE
    clear h0 hE
    go_wp2
    go_ret2
    exact ⟨_, ret_vi HE.out.symm, by rw [HX.out]; exact OwnI.nil _ _, (by repeat (first | assumption | exact Ext.refl _ | exact Ext.of_xt _ _ | apply Ext.alloc | apply Ext.drewN | apply Ext.drew))⟩
end
end Go.Proofs.YtjbnabjjbofhjaaDoor.Fes
