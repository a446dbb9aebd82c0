/- Where the instruction of a register stands; whether a register is set at a place (shape.Place, dom.Set). -/
import Derived.Test.YtjbnabjjbofhjaaDoorDo5
import Derived.Laws.Cover2
set_option linter.unusedVariables false
set_option linter.unusedSimpArgs false
namespace Go.Proofs.YtjbnabjjbofhjaaDoor.Fes
open Go.RowKit Go.Proofs.YtjbnabjjbofhjaaDoorW.PrintWords


/-- the block of the n-th instruction, and its place in it -/
def whr : List Blk → Nat → Nat × Nat
  | [], n => (0, n)
  | b :: bs, n => if n < b.ins.length then (0, n) else ((whr bs (n - b.ins.length)).1 + 1, (whr bs (n - b.ins.length)).2)
theorem whr_in : ∀ (bs : List Blk) (n : Nat), n < manyN bs → (whr bs n).1 < bs.length ∧ (whr bs n).2 < (bs.getD (whr bs n).1 zBlk).ins.length
  | [], n, h => by simp [manyN] at h
  | b :: bs, n, h => by
    have hm : manyN (b :: bs) = b.ins.length + manyN bs := by simp [manyN]
    unfold whr
    by_cases hl : n < b.ins.length
    · rw [if_pos hl]; simpa using hl
    · rw [if_neg hl]
      obtain ⟨h1, h2⟩ := whr_in bs (n - b.ins.length) (by omega)
      refine ⟨by simp; exact h1, ?_⟩
      simpa using h2
/-- on the way: k blocks are behind -/
structure WhrAt (bs : List Blk) (m k a : Nat) : Prop where
  fst : (whr bs m).1 = k + (whr (bs.drop k) a).1
  snd : (whr bs m).2 = (whr (bs.drop k) a).2
  lt : a < manyN (bs.drop k)
theorem WhrAt.start {bs : List Blk} {m : Nat} (h : m < manyN bs) : WhrAt bs m 0 m := ⟨by simp, by simp, by simpa using h⟩
theorem WhrAt.inside {bs : List Blk} {m k a : Nat} (h : WhrAt bs m k a) : k < bs.length := by
  refine Classical.byContradiction fun hn => ?_
  have := h.lt
  rw [List.drop_of_length_le (by omega)] at this
  simp [manyN] at this
theorem WhrAt.here {bs : List Blk} {m k a : Nat} (h : WhrAt bs m k a) (hk : k < bs.length) (hl : a < (bs[k]).ins.length) : (whr bs m).1 = k ∧ (whr bs m).2 = a := by
  have hd := List.drop_eq_getElem_cons hk
  have e : whr (bs.drop k) a = (0, a) := by rw [hd]; unfold whr; rw [if_pos hl]
  exact ⟨by rw [h.fst, e]; rfl, by rw [h.snd, e]⟩
theorem WhrAt.next {bs : List Blk} {m k a : Nat} (h : WhrAt bs m k a) (hk : k < bs.length) (hl : ¬ a < (bs[k]).ins.length) : WhrAt bs m (k + 1) (a - (bs[k]).ins.length) := by
  have hd := List.drop_eq_getElem_cons hk
  have e : whr (bs.drop k) a = ((whr (bs.drop (k + 1)) (a - (bs[k]).ins.length)).1 + 1, (whr (bs.drop (k + 1)) (a - (bs[k]).ins.length)).2) := by rw [hd]; conv => lhs; unfold whr; rw [if_neg hl]
  refine ⟨by rw [h.fst, e]; simp; omega, by rw [h.snd, e], ?_⟩
  have := h.lt
  rw [hd] at this
  have hm : manyN (bs[k] :: bs.drop (k + 1)) = (bs[k]).ins.length + manyN (bs.drop (k + 1)) := by simp [manyN]
  omega

/-- the error, the block and the place of a register -/
def plE (p : Prg) (f r : Int) : Int := if askP p f = 0 then (if belB r (regP p f) = true then 0 else 2) else askP p f
def plW (p : Prg) (f r : Int) : Nat × Nat := whr (fnP p f).blocks (r - askN p f).toNat
def plB (p : Prg) (f r : Int) : Int := if plE p f r = 0 then (if r < askN p f then -1 else ((plW p f r).1 : Int)) else 0
def plA (p : Prg) (f r : Int) : Int := if plE p f r = 0 then (if r < askN p f then r else ((plW p f r).2 : Int)) else 0
theorem plE_zero {p : Prg} {f r : Int} (h : plE p f r = 0) : askP p f = 0 ∧ 0 ≤ r ∧ r < regP p f := by
  unfold plE at h
  split at h
  · rename_i h0
    split at h
    · rename_i h1
      have := belB_iff.1 h1
      exact ⟨h0, this.1, this.2⟩
    · omega
  · rename_i h0; exact absurd h h0
theorem regP_at {p : Prg} {f : Int} (h : askP p f = 0) : regP p f = askN p f + manyN (fnP p f).blocks := by
  unfold regP askN parN regsN
  rw [if_pos h, if_pos h]
  rfl

/-- is a register set at a place? the error, and the answer -/
def seE (p : Prg) (f r b a : Int) : Int :=
  if plE p f r ≠ 0 then plE p f r
  else if belB b (nF p f) = false ∨ a < 0 ∨ (((fnP p f).blocks.getD b.toNat zBlk).ins.length : Int) < a then 2
  else domE p f b
def seB (p : Prg) (f r b a : Int) : Bool :=
  if seE p f r b a = 0 then (if plB p f r < 0 then true else if plB p f r = b then decide (plA p f r < a) else ruledB (toF p f) (nF p f) (plB p f r).toNat b.toNat) else false
theorem seE_zero {p : Prg} {f r b a : Int} (h : seE p f r b a = 0) : plE p f r = 0 ∧ domE p f b = 0 ∧ 0 ≤ a ∧ a ≤ ((fnP p f).blocks.getD b.toNat zBlk).ins.length := by
  unfold seE at h
  split at h
  · contradiction
  · rename_i h0
    split at h
    · omega
    · rename_i h1
      rw [not_or, not_or] at h1
      exact ⟨by simpa using h0, h, by omega, by omega⟩
/-- DomPlaces. -/
theorem dplaces {p : Prg} {f r b a : Int} (h : seE p f r b a = 0) : (seE p f r b (a + 1) = 0 ∧ (seB p f r b a = true → seB p f r b (a + 1) = true)) ∨ seE p f r b (a + 1) = 2 := by
  by_cases h1 : seE p f r b (a + 1) = 0
  · refine .inl ⟨h1, fun hs => ?_⟩
    unfold seB at *
    rw [if_pos h] at hs
    rw [if_pos h1]
    by_cases h2 : plB p f r < 0
    · rw [if_pos h2]
    · rw [if_neg h2] at hs ⊢
      by_cases h3 : plB p f r = b
      · rw [if_pos h3] at hs ⊢
        have := of_decide_eq_true hs
        exact decide_eq_true (by omega)
      · rw [if_neg h3] at hs ⊢
        exact hs
  · right
    unfold seE at *
    obtain ⟨hp, hd, ha, ha2⟩ := seE_zero (show seE p f r b a = 0 from h)
    rw [if_neg (by simpa using hp)] at h h1 ⊢
    split at h1
    · rename_i h4
      rw [if_pos h4]
    · rename_i h4
      exact absurd hd h1
theorem seB_no {p : Prg} {f r b a : Int} (h : seE p f r b a ≠ 0) : seB p f r b a = false := by unfold seB; rw [if_neg h]



theorem belB_v (n m : Int) (b : Bool) (hb : belB n m = b) (w : World) : Calls Tryd.prog 80 #[.int .i64 n, .int .i64 m] w fun e w' => e = .returned (.bool b) ∧ w = w' := by
  subst hb
  exact belB_c n m w
theorem ret_iii {a b c x y z : Int} (h1 : a = x) (h2 : b = y) (h3 : c = z) : Ending.returned (.tuple #[.int .i64 a, .int .i64 b, .int .i64 c]) = .returned (.tuple #[.int .i64 x, .int .i64 y, .int .i64 z]) := by rw [h1, h2, h3]
theorem askN_bd {p : Prg} {k : Nat} (hs : SmP p) (h0 : askP p k = 0) : 0 ≤ askN p k ∧ askN p k ≤ 20 := by
  obtain ⟨hc, f0, f1⟩ := askP_zero h0
  have hk : k < p.funcs.length := by omega
  have hgd : p.funcs.getD (Int.toNat (k : Int)) zFc = p.funcs[k] := by simp [List.getD_eq_getElem?_getD, hk]
  obtain ⟨s0, s1⟩ := funB_sig (chkP_funB hc _ (List.getElem_mem hk))
  have := hs.tp _ (show p.types[(p.funcs[k]).sig.toNat]'(by omega) ∈ p.types from List.getElem_mem _)
  unfold askN parN
  rw [if_pos h0, hgd, List.getD_eq_getElem?_getD, List.getElem?_eq_getElem (by omega)]
  simp only [Option.getD_some]
  omega

set_option maxHeartbeats 4000000 in
theorem place_c (p : Prg) (f r : Int) (A0 A1 : Option Addr) (c0 c1 : Nat) (w : World) (hT : Tab w) (hs : SmP p) (hw : WfP p) (hp : AtP w p A0 A1) :
    Calls Tryd.prog 71 #[vPrg p A0 c0 A1 c1, .int .i64 f, .int .i64 r] w fun e w' => e = .returned (.tuple #[.int .i64 (plB p f r), .int .i64 (plA p f r), .int .i64 (plE p f r)]) ∧ Ext w w' := by
  have HT := Aside0.mk hT
  have HP := Aside0.mk hp
  have HS := Aside0.mk hs
  have HW := Aside0.mk hw
  have hfl := hs.fl
  clear hT hp hs hw
  unfold vPrg
  go_enter Tryd.func71, Tryd.ntmps71
  go_upto_region 1 with (fail)
  (have e_w_W0 : Ext w (w.alloc (.cells #[.slice A0 p.types.length c0, .slice A1 p.funcs.length c1] 25)) := (by repeat (first | assumption | exact Ext.refl _ | exact Ext.of_xt _ _ | apply Ext.alloc | apply Ext.drewN | apply Ext.drew)); have b_W0_0_0 := stays (w := w.alloc (.cells #[.slice A0 p.types.length c0, .slice A1 p.funcs.length c1] 25)) (a := ⟨w.heap.size, 0, none⟩) (by first | (go_simp; rfl) | rfl); have b_W0_0_1 := stays (w := w.alloc (.cells #[.slice A0 p.types.length c0, .slice A1 p.funcs.length c1] 25)) (a := ⟨w.heap.size, 1, none⟩) (by first | (go_simp; rfl) | rfl); generalize w.alloc (.cells #[.slice A0 p.types.length c0, .slice A1 p.funcs.length c1] 25) = W0 at e_w_W0 b_W0_0_0 b_W0_0_1 ⊢)
  go_wp2_with fail
  refine (asked_c p f A0 A1 c0 c1 _ (HT.out.ext (by repeat (first | assumption | exact Ext.refl _ | exact Ext.of_xt _ _ | apply Ext.alloc | apply Ext.drewN | apply Ext.drew))) HS.out HW.out (HP.out.ext (by repeat (first | assumption | exact Ext.refl _ | exact Ext.of_xt _ _ | apply Ext.alloc | apply Ext.drewN | apply Ext.drew)))).mono ?_
  (rintro _ w1 ⟨rfl, hx_⟩; have e_w_w1 : Ext w w1 := Ext.trans (by repeat (first | assumption | exact Ext.refl _ | exact Ext.of_xt _ _ | apply Ext.alloc | apply Ext.drewN | apply Ext.drew)) hx_; have e_W0_w1 : Ext W0 w1 := Ext.trans (by repeat (first | assumption | exact Ext.refl _ | exact Ext.of_xt _ _ | apply Ext.alloc | apply Ext.drewN | apply Ext.drew)) hx_; clear hx_)
  by_cases h0 : askP p f = 0
  case neg =>
    have HE := Aside0.mk (show plE p f r = askP p f by unfold plE; rw [if_neg h0])
    have HB := Aside0.mk (show plB p f r = 0 by unfold plB; rw [if_neg (by rw [HE.out]; exact h0)])
    have HA := Aside0.mk (show plA p f r = 0 by unfold plA; rw [if_neg (by rw [HE.out]; exact h0)])
    have hne : (askP p f != 0) = true := by simp [h0]
    generalize askP p f = e at *
    generalize askN p f = m at *
    clear h0
    go_wp2
    first
      | (go_ret2; exact ⟨ret_iii HB.out.symm HA.out.symm HE.out.symm, (by repeat (first | assumption | exact Ext.refl _ | exact Ext.of_xt _ _ | apply Ext.alloc | apply Ext.drewN | apply Ext.drew))⟩)
      | exact bodyPost_ret (v := .tuple #[.int .i64 0, .int .i64 0, .int .i64 e]) (by simp [results, Tryd.results71, go_sem]) rfl ⟨ret_iii HB.out.symm HA.out.symm HE.out.symm, (by repeat (first | assumption | exact Ext.refl _ | exact Ext.of_xt _ _ | apply Ext.alloc | apply Ext.drewN | apply Ext.drew))⟩
  obtain ⟨hc, f0, f1⟩ := askP_zero h0
  obtain ⟨k, rfl⟩ := Int.eq_ofNat_of_zero_le f0
  have hk : k < p.funcs.length := by omega
  have hmn := HS.out.il _ (List.getElem_mem hk)
  have hbl20 := HS.out.bl _ (List.getElem_mem hk)
  have hbd := askN_bd HS.out h0
  have hrg := regP_at h0
  rw [fnP_at hk] at hrg
  have HWL := Aside0.mk (show plW p k r = whr (p.funcs[k]).blocks (r - askN p k).toNat by unfold plW; rw [fnP_at hk])
  obtain ⟨fd, C1, e1, rfl, x0, x1, lx, gx⟩ := at_Fc (e_w_w1.C HP.out.cf) k hk
  have GX := Aside0.mk gx
  have H0 := Aside0.mk h0
  have HRG := Aside0.mk hrg
  have HPB := Aside0.mk (show plB p k r = if plE p k r = 0 then (if r < askN p k then -1 else ((plW p k r).1 : Int)) else 0 from rfl)
  have HPA := Aside0.mk (show plA p k r = if plE p k r = 0 then (if r < askN p k then r else ((plW p k r).2 : Int)) else 0 from rfl)
  have HPE := Aside0.mk (show plE p k r = if belB r (regP p k) = true then 0 else 2 by unfold plE; rw [if_pos h0])
  rw [h0]
  clear gx lx hc h0 f0 hrg
  generalize p.funcs[k] = fn at *
  generalize askN p k = m at *
  have e_w1_w1 : Ext w1 w1 := Ext.refl _
  go_wp2_with fail
  refine (many_c fn.sig fn.blocks C1 e1 _ (Ext.C (by repeat (first | assumption | exact Ext.refl _ | exact Ext.of_xt _ _ | apply Ext.alloc | apply Ext.drewN | apply Ext.drew)) GX.out) (by omega)).mono ?_
  (rintro _ w2 ⟨rfl, hx_⟩; have e_w_w2 : Ext w w2 := Ext.trans (by repeat (first | assumption | exact Ext.refl _ | exact Ext.of_xt _ _ | apply Ext.alloc | apply Ext.drewN | apply Ext.drew)) hx_; have e_w1_w2 : Ext w1 w2 := Ext.trans (by repeat (first | assumption | exact Ext.refl _ | exact Ext.of_xt _ _ | apply Ext.alloc | apply Ext.drewN | apply Ext.drew)) hx_; have e_W0_w2 : Ext W0 w2 := Ext.trans (by repeat (first | assumption | exact Ext.refl _ | exact Ext.of_xt _ _ | apply Ext.alloc | apply Ext.drewN | apply Ext.drew)) hx_; clear hx_)
  have hwr : IntKind.i64.wrap (m + (manyN fn.blocks : Int)) = m + manyN fn.blocks := IntWalk.i64_in _ (by omega)
  cases hb : belB r (m + manyN fn.blocks) with
  | false =>
    have HE := Aside0.mk (show plE p k r = 2 by rw [HPE.out, HRG.out, hb]; rfl)
    have HB := Aside0.mk (show plB p k r = 0 by rw [HPB.out, if_neg (by rw [HE.out]; decide)])
    have HA := Aside0.mk (show plA p k r = 0 by rw [HPA.out, if_neg (by rw [HE.out]; decide)])
    have HBB := Aside0.mk hb
    clear hb
    go_wp2_with fail
    refine (belB_v r (m + manyN fn.blocks) false HBB.out _).mono ?_
    rintro _ _ ⟨rfl, rfl⟩
    go_wp2
    first
      | (go_ret2; exact ⟨ret_iii HB.out.symm HA.out.symm HE.out.symm, (by repeat (first | assumption | exact Ext.refl _ | exact Ext.of_xt _ _ | apply Ext.alloc | apply Ext.drewN | apply Ext.drew))⟩)
      | exact bodyPost_ret (v := .tuple #[.int .i64 0, .int .i64 0, .int .i64 2]) (by simp [results, Tryd.results71, go_sem]) rfl ⟨ret_iii HB.out.symm HA.out.symm HE.out.symm, (by repeat (first | assumption | exact Ext.refl _ | exact Ext.of_xt _ _ | apply Ext.alloc | apply Ext.drewN | apply Ext.drew))⟩
  | true =>
    have hb' := belB_iff.1 hb
    obtain ⟨hr0, hr1⟩ := hb'
    have HE := Aside0.mk (show plE p k r = 0 by rw [HPE.out, HRG.out, hb]; rfl)
    have HBB := Aside0.mk hb
    clear hb
    go_wp2_with fail
    refine (belB_v r (m + manyN fn.blocks) true HBB.out _).mono ?_
    rintro _ _ ⟨rfl, rfl⟩
    by_cases hrm : r < m
    case pos =>
      have HB := Aside0.mk (show plB p k r = -1 by rw [HPB.out, if_pos HE.out, if_pos hrm])
      have HA := Aside0.mk (show plA p k r = r by rw [HPA.out, if_pos HE.out, if_pos hrm])
      go_wp2
      first
        | (go_ret2; exact ⟨ret_iii HB.out.symm HA.out.symm HE.out.symm, (by repeat (first | assumption | exact Ext.refl _ | exact Ext.of_xt _ _ | apply Ext.alloc | apply Ext.drewN | apply Ext.drew))⟩)
        | exact bodyPost_ret (v := .tuple #[.int .i64 (-1), .int .i64 r, .int .i64 0]) (by simp [results, Tryd.results71, go_sem]) rfl ⟨ret_iii HB.out.symm HA.out.symm HE.out.symm, (by repeat (first | assumption | exact Ext.refl _ | exact Ext.of_xt _ _ | apply Ext.alloc | apply Ext.drewN | apply Ext.drew))⟩
    case neg =>
      have HB := Aside0.mk (show plB p k r = ((whr fn.blocks (r - m).toNat).1 : Int) by rw [HPB.out, if_pos HE.out, if_neg hrm, HWL.out])
      have HA := Aside0.mk (show plA p k r = ((whr fn.blocks (r - m).toNat).2 : Int) by rw [HPA.out, if_pos HE.out, if_neg hrm, HWL.out])
      have hrd : decide (r < m) = false := by simpa using hrm
      obtain ⟨q, hq⟩ : ∃ q : Nat, r - m = (q : Int) := Int.eq_ofNat_of_zero_le (by omega)
      have HQ := Aside0.mk hq
      have hqm : q < manyN fn.blocks := by omega
      have HST := Aside0.mk (WhrAt.start hqm)
      have hrq : r = m + q := by omega
      have hwr2 : IntKind.i64.wrap (r - m) = r - m := IntWalk.i64_in _ (by omega)
      rw [show (r - m).toNat = q by omega] at HB HA
      have hmx : manyN fn.blocks ≤ 1000000 := by omega
      clear hwr hrm hq hrq
      go_wp2
      go_loopg [6, 7] fn.blocks.length (fun gk b a wr => ∃ kk aa : Nat, gk = fn.blocks.length - kk ∧ b = .int .i64 kk ∧ a = .int .i64 aa ∧ Aside0 (WhrAt fn.blocks q kk aa) ∧ Ext w2 wr)
      case atStart => exact ⟨0, q, by omega, rfl, by rw [HQ.out], HST, Ext.refl _⟩
      case round =>
        obtain ⟨kk, aa, hgk, rfl, rfl, HWA, e_w2_wr⟩ := hrel
        have e_w_wr := e_w_w2.trans e_w2_wr
        have e_W0_wr := e_W0_w2.trans e_w2_wr
        have e_w1_wr := e_w1_w2.trans e_w2_wr
        have hin := HWA.out.inside
        have HGK := Aside0.mk hgk
        have HIN := Aside0.mk hin
        obtain ⟨bd, D0, d0, he_, y0, y1, y2, y3, y4, ly, gy⟩ := at_Blk (e_w1_wr.C GX.out) kk hin
        subst he_
        have hblk := HS.out.il _ (List.getElem_mem hk)
        have hal := HWA.out.lt
        have hdl : manyN (fn.blocks.drop kk) ≤ manyN fn.blocks := by
          have h1 := manyN_snoc
          have : manyN fn.blocks = manyN (fn.blocks.take kk) + manyN (fn.blocks.drop kk) := by
            conv => lhs; rw [← List.take_append_drop kk fn.blocks]
            generalize fn.blocks.take kk = l1
            generalize fn.blocks.drop kk = l2
            induction l1 with
            | nil => simp [manyN]
            | cons b l1 ih => simp only [List.cons_append, manyN]; omega
          omega
        have HHE := Aside0.mk (fun h => HWA.out.here hin h)
        have HNX := Aside0.mk (fun h => HWA.out.next hin h)
        clear gy hgk hblk
        generalize fn.blocks[kk] = bl at *
        by_cases hl : aa < bl.ins.length
        case pos =>
          obtain ⟨h1, h2⟩ := HHE.out hl
          have HB2 := Aside0.mk (show plB p k r = (kk : Int) by rw [HB.out, h1])
          have HA2 := Aside0.mk (show plA p k r = (aa : Int) by rw [HA.out, h2])
          clear h1 h2
          go_wp2
          first
            | (go_ret2; exact ⟨ret_iii HB2.out.symm HA2.out.symm HE.out.symm, (by repeat (first | assumption | exact Ext.refl _ | exact Ext.of_xt _ _ | apply Ext.alloc | apply Ext.drewN | apply Ext.drew))⟩)
            | exact bodyPost_ret (v := .tuple #[.int .i64 kk, .int .i64 aa, .int .i64 0]) (by simp [results, Tryd.results71, go_sem]) rfl ⟨ret_iii HB2.out.symm HA2.out.symm HE.out.symm, (by repeat (first | assumption | exact Ext.refl _ | exact Ext.of_xt _ _ | apply Ext.alloc | apply Ext.drewN | apply Ext.drew))⟩
        case neg =>
          have HN2 := Aside0.mk (HNX.out hl)
          have hle : bl.ins.length ≤ aa := by omega
          have hbd2 : (-9223372036854775808 : Int) ≤ (aa : Int) - (bl.ins.length : Int) ∧ (aa : Int) - (bl.ins.length : Int) ≤ 9223372036854775807 := by omega
          have hw3 : IntKind.i64.wrap ((aa : Int) - (bl.ins.length : Int)) = ((aa - bl.ins.length : Nat) : Int) := by rw [IntWalk.i64_in _ (by omega), Int.ofNat_sub hle]
          clear hbd2 hle
          clear hdl hal
          go_wp2
          go_roundg (fn.blocks.length - (kk + 1))
          case rel => exact ⟨kk + 1, aa - bl.ins.length, rfl, by go_num, by first | rfl | (congr 1; done), HN2, (by repeat (first | assumption | exact Ext.refl _ | exact Ext.of_xt _ _ | apply Ext.alloc | apply Ext.drewN | apply Ext.drew))⟩
          case measure => have h1 := HGK.out; have h2 := HIN.out; omega



/-- small whole numbers as floats stand to each other as they do -/
def fl64 (n : Int) : Nat := FloatKind.f64.nearest n
theorem ord_small : ((List.range 130).all fun x => (List.range 130).all fun y => FloatKind.f64.format.order (fl64 (x : Nat)) (fl64 (y : Nat)) == some (compare x y)) = true := by decide +kernel
theorem ord_at {x y : Nat} (hx : x < 130) (hy : y < 130) : FloatKind.f64.format.order (fl64 x) (fl64 y) = some (compare x y) := by
  have h := List.all_eq_true.1 (List.all_eq_true.1 ord_small x (by simpa using hx)) y (by simpa using hy)
  simpa using h
theorem run_conv64 (n : Int) (W : World) : (convert 3 107 (.int .i64 n)).run Tryd.prog W = .ok (.float .f64 (fl64 n)) W := by
  unfold convert
  simp only [Sem.run_bind, run_underlying (P := Tryd.prog) Tryd.underlying3, run_underlying (P := Tryd.prog) Tryd.underlying107, Result.andThen_ok]
  rfl
set_option maxRecDepth 100000 in
set_option maxHeartbeats 1000000 in
theorem place10_c (b a : Int) (w : World) : Calls Tryd.prog 72 #[.int .i64 b, .int .i64 a] w fun e w' => e = .returned (.complex .f64 (fl64 b) (fl64 a)) ∧ w = w' := by
  have h1 : ∀ (n : Int) (W : World), (convert 3 107 (.int .i64 n)).run Tryd.prog W = .ok (.float .f64 (fl64 n)) W := run_conv64
  have h2 : ∀ (x y : Nat) (ty : TypeId) (W : World), (Builtin.complex_ #[107, 107] ty #[.float .f64 x, .float .f64 y]).run Tryd.prog W = .ok (.complex .f64 x y) W := fun x y ty W => by rfl
  go_enter Tryd.func72, Tryd.ntmps72
  go_wp2
  go_ret
  exact ⟨rfl, rfl⟩
theorem plB_cases {p : Prg} {f r : Int} (h : plE p f r = 0) (hs : manyN (fnP p f).blocks ≤ 128) (hn : (fnP p f).blocks.length ≤ 16) :
    (plB p f r = -1) ∨ (∃ x y : Nat, plB p f r = x ∧ plA p f r = y ∧ x < 16 ∧ y < 128) := by
  obtain ⟨h0, r0, r1⟩ := plE_zero h
  by_cases hr : r < askN p f
  · left; unfold plB; rw [if_pos h, if_pos hr]
  · right
    refine ⟨(plW p f r).1, (plW p f r).2, by unfold plB; rw [if_pos h, if_neg hr], by unfold plA; rw [if_pos h, if_neg hr], ?_⟩
    have hrg := regP_at h0
    have hw := whr_in (fnP p f).blocks (r - askN p f).toNat (by omega)
    have hle : ∀ (l : List Blk) (k : Nat), (l.getD k zBlk).ins.length ≤ manyN l := by
      intro l
      induction l with
      | nil => intro k; simp [zBlk, manyN]
      | cons b l ih =>
        intro k
        cases k with
        | zero => simp [manyN]
        | succ k => have := ih k; simp [manyN] at *; omega
    have h2 := hle (fnP p f).blocks (whr (fnP p f).blocks (r - askN p f).toNat).1
    unfold plW
    omega
theorem flE_many {p : Prg} {f b : Int} (h : flE p f b = 0) : manyN (fnP p f).blocks ≤ 128 := by
  have hf := flE_fun h
  unfold funB at hf
  simp only [Bool.and_eq_true] at hf
  exact of_decide_eq_true hf.1.2
theorem ret_bq {a : Bool} {x y : Int} (h2 : x = y) : Ending.returned (.tuple #[.bool a, .int .i64 x]) = .returned (.tuple #[.bool a, .int .i64 y]) := by rw [h2]

set_option maxRecDepth 100000 in
set_option maxHeartbeats 4000000 in
theorem domSet_c (p : Prg) (f r b a : Int) (A0 A1 : Option Addr) (c0 c1 : Nat) (w : World) (hT : Tab w) (hs : SmP p) (hw : WfP p) (hp : AtP w p A0 A1) :
    Calls Tryd.prog 38 #[vPrg p A0 c0 A1 c1, .int .i64 f, .int .i64 r, .int .i64 b, .int .i64 a] w fun e w' => e = .returned (.tuple #[.bool (seB p f r b a), .int .i64 (seE p f r b a)]) ∧ Ext w w' := by
  have HT := Aside0.mk hT
  have HP := Aside0.mk hp
  have HS := Aside0.mk hs
  have HW := Aside0.mk hw
  have hfl := hs.fl
  clear hT hp hs hw
  unfold vPrg
  go_enter Tryd.func38, Tryd.ntmps38
  go_upto_region 1 with (fail)
  (have e_w_W0 : Ext w (w.alloc (.cells #[.slice A0 p.types.length c0, .slice A1 p.funcs.length c1] 25)) := (by repeat (first | assumption | exact Ext.refl _ | exact Ext.of_xt _ _ | apply Ext.alloc | apply Ext.drewN | apply Ext.drew)); have b_W0_0_0 := stays (w := w.alloc (.cells #[.slice A0 p.types.length c0, .slice A1 p.funcs.length c1] 25)) (a := ⟨w.heap.size, 0, none⟩) (by first | (go_simp; rfl) | rfl); have b_W0_0_1 := stays (w := w.alloc (.cells #[.slice A0 p.types.length c0, .slice A1 p.funcs.length c1] 25)) (a := ⟨w.heap.size, 1, none⟩) (by first | (go_simp; rfl) | rfl); generalize w.alloc (.cells #[.slice A0 p.types.length c0, .slice A1 p.funcs.length c1] 25) = W0 at e_w_W0 b_W0_0_0 b_W0_0_1 ⊢)
  go_wp2_with fail
  refine (place_c p f r A0 A1 c0 c1 _ (HT.out.ext (by repeat (first | assumption | exact Ext.refl _ | exact Ext.of_xt _ _ | apply Ext.alloc | apply Ext.drewN | apply Ext.drew))) HS.out HW.out (HP.out.ext (by repeat (first | assumption | exact Ext.refl _ | exact Ext.of_xt _ _ | apply Ext.alloc | apply Ext.drewN | apply Ext.drew)))).mono ?_
  (rintro _ w1 ⟨rfl, hx_⟩; have e_w_w1 : Ext w w1 := Ext.trans (by repeat (first | assumption | exact Ext.refl _ | exact Ext.of_xt _ _ | apply Ext.alloc | apply Ext.drewN | apply Ext.drew)) hx_; have e_W0_w1 : Ext W0 w1 := Ext.trans (by repeat (first | assumption | exact Ext.refl _ | exact Ext.of_xt _ _ | apply Ext.alloc | apply Ext.drewN | apply Ext.drew)) hx_; clear hx_)
  by_cases h0 : plE p f r = 0
  case neg =>
    have HE := Aside0.mk (show seE p f r b a = plE p f r by unfold seE; rw [if_pos h0])
    have HB := Aside0.mk (seB_no (p := p) (f := f) (r := r) (b := b) (a := a) (by rw [HE.out]; exact h0))
    have hne : (plE p f r != 0) = true := by simp [h0]
    generalize plE p f r = e at *
    generalize plB p f r = pb at *
    generalize plA p f r = pa at *
    clear h0
    go_wp2
    go_ret2
    exact ⟨ret_bi HB.out.symm HE.out.symm, (by repeat (first | assumption | exact Ext.refl _ | exact Ext.of_xt _ _ | apply Ext.alloc | apply Ext.drewN | apply Ext.drew))⟩
  obtain ⟨h00, r0, r1⟩ := plE_zero h0
  obtain ⟨_, f0, f1⟩ := askP_zero h00
  obtain ⟨k, rfl⟩ := Int.eq_ofNat_of_zero_le f0
  have hk : k < p.funcs.length := by omega
  have HF := Aside0.mk (fnP_at hk)
  have hbl20 := HS.out.bl _ (List.getElem_mem hk)
  have H0 := Aside0.mk h0
  obtain ⟨ad, B1, d1, rfl, x0, x1, lx, gx⟩ := at_Fc (e_w_w1.C HP.out.cf) k hk
  rw [← HF.out] at x1 lx gx hbl20
  have GX := Aside0.mk gx
  have HSE := Aside0.mk (show seE p k r b a = if belB b (nF p k) = false ∨ a < 0 ∨ (((fnP p k).blocks.getD b.toNat zBlk).ins.length : Int) < a then 2 else domE p k b by
    unfold seE
    rw [if_neg (by simpa using h0)])
  rw [h0]
  clear gx lx h0 h00 f0
  have e_w1_w1 : Ext w1 w1 := Ext.refl _
  have e_w0_w1 := e_W0_w1
  generalize hpb : plB p k r = pb at *
  generalize hpa : plA p k r = pa at *
  have HPB := Aside0.mk hpb
  have HPA := Aside0.mk hpa
  clear hpb hpa
  by_cases hbad : belB b (nF p k) = false ∨ a < 0 ∨ (((fnP p k).blocks.getD b.toNat zBlk).ins.length : Int) < a
  case pos =>
    have HE := Aside0.mk (show seE p k r b a = 2 by rw [HSE.out, if_pos hbad])
    have HB := Aside0.mk (seB_no (p := p) (f := k) (r := r) (b := b) (a := a) (by rw [HE.out]; decide))
    by_cases hb0 : b < 0
    case pos =>
      clear hbad
      generalize (fnP p k).blocks = bs at *
      go_wp2
      go_ret2
      exact ⟨ret_bi HB.out.symm HE.out.symm, (by repeat (first | assumption | exact Ext.refl _ | exact Ext.of_xt _ _ | apply Ext.alloc | apply Ext.drewN | apply Ext.drew))⟩
    by_cases hb1 : ((fnP p k).blocks.length : Int) ≤ b
    case pos =>
      clear hbad
      generalize (fnP p k).blocks = bs at *
      go_wp2
      go_ret2
      exact ⟨ret_bi HB.out.symm HE.out.symm, (by repeat (first | assumption | exact Ext.refl _ | exact Ext.of_xt _ _ | apply Ext.alloc | apply Ext.drewN | apply Ext.drew))⟩
    by_cases ha0 : a < 0
    case pos =>
      clear hbad
      generalize (fnP p k).blocks = bs at *
      go_wp2
      go_ret2
      exact ⟨ret_bi HB.out.symm HE.out.symm, (by repeat (first | assumption | exact Ext.refl _ | exact Ext.of_xt _ _ | apply Ext.alloc | apply Ext.drewN | apply Ext.drew))⟩
    obtain ⟨q, rfl⟩ := Int.eq_ofNat_of_zero_le (show 0 ≤ b by omega)
    have hq : q < (fnP p k).blocks.length := by omega
    have hal : (((fnP p k).blocks[q]).ins.length : Int) < a := by
      rcases hbad with h | h | h
      · have := belB_not.1 h
        exact absurd ⟨by omega, by show (q : Int) < ((fnP p k).blocks.length : Int); omega⟩ this
      · exact absurd h ha0
      · simpa [List.getD_eq_getElem?_getD, hq] using h
    obtain ⟨bd, D0, d0, he_, y0, y1, y2, y3, y4, ly, gy⟩ := at_Blk GX.out q hq
    subst he_
    clear gy hbad
    generalize (fnP p k).blocks[q] = bl at *
    generalize (fnP p k).blocks = bs at *
    go_wp2
    go_ret2
    exact ⟨ret_bi HB.out.symm HE.out.symm, (by repeat (first | assumption | exact Ext.refl _ | exact Ext.of_xt _ _ | apply Ext.alloc | apply Ext.drewN | apply Ext.drew))⟩
  rw [not_or, not_or] at hbad
  obtain ⟨hb', ha', hal'⟩ := hbad
  have hb2 : belB b (nF p k) = true := by simpa using hb'
  obtain ⟨b0, b1⟩ := belB_iff.1 hb2
  have HE := Aside0.mk (show seE p k r b a = domE p k b by rw [HSE.out, if_neg (fun h => by rcases h with h | h | h; exact hb' h; exact ha' h; exact hal' h)])
  obtain ⟨q, rfl⟩ := Int.eq_ofNat_of_zero_le b0
  have hq : q < (fnP p k).blocks.length := by
    have : (q : Int) < ((fnP p k).blocks.length : Int) := b1
    omega
  have hal : a ≤ (((fnP p k).blocks[q]).ins.length : Int) := by
    have : ¬ ((((fnP p k).blocks.getD (q : Int).toNat zBlk).ins.length : Int) < a) := hal'
    simp [List.getD_eq_getElem?_getD, hq] at this
    exact this
  obtain ⟨bd, D0, d0, he_, y0, y1, y2, y3, y4, ly, gy⟩ := at_Blk GX.out q hq
  subst he_
  have HIL := Aside0.mk (show ((fnP p k).blocks[q]).ins.length ≤ manyN (fnP p k).blocks from by
    have hle : ∀ (l : List Blk) (j : Nat) (h : j < l.length), (l[j]).ins.length ≤ manyN l := by
      intro l
      induction l with
      | nil => intro j h; simp at h
      | cons b l ih =>
        intro j h
        cases j with
        | zero => simp [manyN]
        | succ j => have := ih j (by simpa using h); simp [manyN] at *; omega
    exact hle _ q hq)
  have HAL := Aside0.mk hal
  clear gy hb' hal' hb2 hal
  generalize hbl : (fnP p k).blocks[q] = bl at *
  have hal2 : a ≤ (bl.ins.length : Int) := HAL.out
  clear hbl
  go_wp2_with fail
  by_cases hd : domE p k q = 0
  case neg =>
    have HB := Aside0.mk (seB_no (p := p) (f := k) (r := r) (b := q) (a := a) (by rw [HE.out]; exact hd))
    refine (domAsk_no p k q A0 (some ad) c0 c1 _ hd (HT.out.ext e_w_w1) HS.out HW.out (HP.out.ext e_w_w1)).mono ?_
    (rintro _ w2 ⟨rfl, hx_⟩; have e_w_w2 : Ext w w2 := Ext.trans (by repeat (first | assumption | exact Ext.refl _ | exact Ext.of_xt _ _ | apply Ext.alloc | apply Ext.drewN | apply Ext.drew)) hx_; have e_w1_w2 : Ext w1 w2 := Ext.trans (by repeat (first | assumption | exact Ext.refl _ | exact Ext.of_xt _ _ | apply Ext.alloc | apply Ext.drewN | apply Ext.drew)) hx_; have e_W0_w2 : Ext W0 w2 := Ext.trans (by repeat (first | assumption | exact Ext.refl _ | exact Ext.of_xt _ _ | apply Ext.alloc | apply Ext.drewN | apply Ext.drew)) hx_; clear hx_)
    have hne : (domE p k q != 0) = true := by simp [hd]
    generalize domE p k q = e at *
    clear hd
    go_wp2
    go_ret2
    exact ⟨ret_bi HB.out.symm HE.out.symm, e_w_w2⟩
  refine (domAsk_yes p k q A0 (some ad) c0 c1 _ hd (HT.out.ext e_w_w1) HS.out HW.out (HP.out.ext e_w_w1)).mono ?_
  rintro _ w2 ⟨g, ns, os, rfl, hB, hRS, hO, hx_⟩
  have e_w_w2 := e_w_w1.trans hx_
  have D := domE_ok hd
  have HDD := Aside0.mk D
  have HE2 := Aside0.mk (show seE p k r q a = 0 from HE.out.trans hd)
  have HSB := Aside0.mk (show seB p k r q a = if pb < 0 then true else if pb = q then decide (pa < a) else ruledB (toF p k) (nF p k) pb.toNat q by
    unfold seB
    rw [if_pos HE2.out, HPB.out, HPA.out]
    rfl)
  have hcs := plB_cases H0.out (flE_many D.fl) (flE_16 D.fl)
  rw [HPB.out, HPA.out] at hcs
  have hm128 := flE_many D.fl
  have hq16 : q < 16 := Nat.lt_of_lt_of_le hq (flE_16 D.fl)
  have hal3 : bl.ins.length ≤ 128 := Nat.le_trans HIL.out hm128
  have HBx := Aside0.mk hB
  have HRS := Aside0.mk hRS
  have HOx := Aside0.mk hO
  have HNU := Aside0.mk (odB_nums D.ins D.pos)
  have ha128 : a ≤ 128 := by omega
  clear hB hRS hO hx_ D hd hm128 hal3 hal2 x0 x1 y0 y1 y2 y3 y4
  have h3 : ∀ (re im : Nat) (ty : TypeId) (W : World), (Builtin.real_ #[105] ty #[.complex .f64 re im]).run Tryd.prog W = .ok (.float .f64 re) W := fun re im ty W => by rfl
  have h4 : ∀ (re im : Nat) (ty : TypeId) (W : World), (Builtin.imag_ #[105] ty #[.complex .f64 re im]).run Tryd.prog W = .ok (.float .f64 im) W := fun re im ty W => by rfl
  go_wp2_with fail
  refine (place10_c pb pa _).mono ?_
  rintro _ _ ⟨rfl, rfl⟩
  go_wp2_with fail
  refine (place10_c q a _).mono ?_
  rintro _ _ ⟨rfl, rfl⟩
  rcases hcs with hn | ⟨x, y, hx, hy, hx16, hy128⟩
  · subst hn
    have HS1 := Aside0.mk (show seB p k r q a = true by rw [HSB.out, if_pos (by decide)])
    go_wp2
    go_ret2
    exact ⟨ret_bi HS1.out.symm HE2.out.symm, e_w_w2⟩
  · subst hx hy
    have hq1 : ((x : Int) == -1) = false := by first | (simp; done) | (simp; omega)
    obtain ⟨a', ha0⟩ := Int.eq_ofNat_of_zero_le (show 0 ≤ a by omega)
    subst ha0
    have ho1 := ord_at (x := x) (y := q) (by omega) (by omega)
    have ho2 := ord_at (x := y) (y := a') (by omega) (by omega)
    by_cases hxq : x = q
    case pos =>
      subst hxq
      have HS1 := Aside0.mk (show seB p k r x a' = decide (y < a') by
        rw [HSB.out, if_neg (by omega), if_pos rfl]
        rw [Bool.eq_iff_iff, decide_eq_true_eq, decide_eq_true_eq]
        omega)
      have hc1 : (FloatKind.f64.format.order (fl64 (x : Int)) (fl64 (x : Int)) == some .eq) = true := by rw [ho1]; simp
      have hc2 : (FloatKind.f64.format.order (fl64 (y : Int)) (fl64 (a' : Int)) == some .lt) = decide (y < a') := by
        rw [ho2, Bool.eq_iff_iff, decide_eq_true_eq, beq_iff_eq, Option.some.injEq, Nat.compare_eq_lt]
      have HC2 := Aside0.mk hc2
      clear ho1 ho2 hc2
      go_wp2
      go_ret2
      exact ⟨ret_bi (HC2.out.trans HS1.out.symm) HE2.out.symm, e_w_w2⟩
    case neg =>
      have HS1 := Aside0.mk (show seB p k r q a' = ruledB (toF p k) (nF p k) x q by
        rw [HSB.out, if_neg (by omega), if_neg (by omega)]
        rfl)
      have hc1 : (FloatKind.f64.format.order (fl64 (x : Int)) (fl64 (q : Int)) == some .eq) = false := by
        rw [ho1]
        cases hcc : compare x q with
        | eq => exact absurd (Nat.compare_eq_eq.1 hcc) hxq
        | lt => rfl
        | gt => rfl
      clear ho1 ho2 hxq
      go_wp2_with fail
      refine (rules_c HNU.out g ns os x q _ HBx.out HRS.out.doms HOx.out (HRS.out.known q HDD.out.rc)).mono ?_
      rintro _ w3 ⟨rr, rfl, hr, hx_⟩
      have e_w_w3 := e_w_w2.trans hx_
      have HQ := Aside0.mk (show rr = seB p k r q a' by
        have hrc : Rc (toF p k) q := HDD.out.rc
        rw [HS1.out, Bool.eq_iff_iff, hr, ruledB_iff HDD.out.ins HDD.out.pos hrc]
        exact HRS.out.up x q hrc)
      clear hr hx_
      go_wp2
      go_ret2
      exact ⟨ret_bi HQ.out HE2.out.symm, e_w_w3⟩
end Go.Proofs.YtjbnabjjbofhjaaDoor.Fes
