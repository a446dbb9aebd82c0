/- Package flow: the order. -/
import Derived.Test.YtjbnabjjbofhjaaDoorFl5
set_option linter.unusedVariables false
set_option linter.unusedSimpArgs false
namespace Go.Proofs.YtjbnabjjbofhjaaDoor.Fes
open Go.RowKit Go.Shelf Go.Proofs.YtjbnabjjbofhjaaDoorW.PrintWords
attribute [local go_sem] Oper.semAt_some

theorem nodup_le (n : Nat) (l : List Nat) (hnd : l.Nodup) (h : ∀ x ∈ l, x < n) : l.length ≤ n := by
  induction n generalizing l with
  | zero =>
    cases l with
    | nil => simp
    | cons x l => exact absurd (h x (by simp)) (by omega)
  | succ n ih =>
    have h1 := ih (l.erase n) (hnd.erase n) (fun x hx => by
      have hm := List.mem_of_mem_erase hx
      have := h x hm
      have hne : x ≠ n := by rintro rfl; exact (List.Nodup.not_mem_erase hnd) hx
      omega)
    have h2 := List.length_erase (a := n) (l := l)
    split at h2 <;> omega
theorem Ints.up {Bx n₀ n₁ : Nat} {W : World} {sv : Value} {zs : List Int} (h : Ints Bx n₀ W sv zs) (hn : n₀ ≤ n₁) : Ints Bx n₁ W sv zs := by
  rcases h with h | ⟨b, off, cap, e, hb, hc⟩
  · exact .inl h
  · exact .inr ⟨b, off, cap, e, ⟨by omega, hb.2⟩, hc⟩
theorem Boxed.app2 {W w1 : World} {n₀ B : Nat} {t e : TypeId} {size : Nat} {v v' : Value} {k m : Nat} {xs ys : List Value} {tmp : Obj}
    (hv : Boxed W B t v) (hte : t ≠ e) (hrow : W.ownsRow n₀ e size v k xs) (hn₀ : n₀ ≤ W.heap.size)
    (hown' : w1.ownsRow n₀ e size v' m ys) (hgrow : (W.alloc tmp).grownBy w1 v.ownBlock) :
    Boxed w1 B t v ∧ Boxed (w1.setCell ⟨B, 0, none⟩ v') B t v' ∧ (w1.setCell ⟨B, 0, none⟩ v').ownsRow n₀ e size v' m ys ∧ KeepsOthers W (w1.setCell ⟨B, 0, none⟩ v') ∧ Kb B n₀ W (w1.setCell ⟨B, 0, none⟩ v') ∧ (∀ n1, n1 ≤ n₀ → n1 ≤ B → Below n1 W (w1.setCell ⟨B, 0, none⟩ v')) := by
  have h1 := Boxed.appended hv hte (own_weaken hrow (Nat.zero_le _)) (Nat.zero_le _) (Nat.zero_le _) (own_weaken hown' (Nat.zero_le _)) hgrow
  have hvn : ∀ j, v.ownBlock = some j → n₀ ≤ j := fun j hj => own_base hrow j hj
  refine ⟨h1.1, h1.2.1, hown'.kept (grownBy_setCell' w1 B v') (.inr (h1.1.not_row hte hown').symm), h1.2.2.2.1, ⟨?_, fun j hj hjB => ?_⟩, fun n1 hn1 hn1B => ?_⟩
  · have := hgrow.size
    simp at this ⊢
    omega
  · rw [Below.heap_setCell w1 ⟨B, 0, none⟩ v' j hjB, hgrow.block j (by simp; omega) (fun e => by have := hvn j e.symm; omega)]
    exact Below.heap_alloc W _ j (by omega)
  · exact (Boxed.appended hv hte (own_weaken hrow hn1) (Nat.le_trans hn1 hn₀) hn1B (own_weaken hown' hn1) hgrow).2.2.2.2
theorem upto_map {α β : Type} (g : α → β) (f : Nat → α) (k : Nat) : (upto f k).map g = upto (fun j => g (f j)) k := by simp [upto]
theorem back_map (zs : List Int) : (back zs).map (fun x : Nat × Int => x.2) = zs.reverse := by
  unfold back
  rw [upto_map]
  apply List.ext_getElem
  · simp [upto]
  · intro i h1 h2
    have hi : i < zs.length := by simpa [upto] using h1
    simp only [upto, List.getElem_map, List.getElem_range, List.getElem_reverse]
    rw [List.getElem?_eq_getElem (by omega)]
    rfl
/-- the blocks in the order -/
def orP (p : Prg) (f : Int) : List Int := if flE p f 0 = 0 then castL (orderL (toN (fnP p f).blocks) (fnP p f).blocks.length) else []
section
variable (p : Prg) (f : Int) (A0 A1 : Option Addr) (c0 c1 : Nat) (w : World)
set_option maxHeartbeats 2000000 in
theorem flOrder_no (h0 : flE p f 0 ≠ 0) (hT : Tab w) (hs : SmP p) (hw : WfP p) (hp : AtP w p A0 A1) :
    Calls Tryd.prog 31 #[vPrg p A0 c0 A1 c1, .int .i64 f] w fun e w' => e = .returned (.tuple #[.slice none 0 0, .int .i64 (flE p f 0)]) ∧ Ext w w' := by
  have HT := Aside0.mk hT
  have HP := Aside0.mk hp
  have HS := Aside0.mk hs
  have HW := Aside0.mk hw
  have H0 := Aside0.mk h0
  clear hT hp hs hw h0
  unfold vPrg
  go_enter Tryd.func31, Tryd.ntmps31
  go_upto_region 1 with (fail)
  have hbx : ((w.alloc (.cells #[.slice A0 p.types.length c0, .slice A1 p.funcs.length c1] 25)).alloc (.cells #[.slice none 0 0] 28)).heap[w.heap.size + 1]? = some (.cells #[.slice none 0 0] 28 (0, 0)) := by
    have := heap_new (w.alloc (.cells #[.slice A0 p.types.length c0, .slice A1 p.funcs.length c1] 25)) (.cells #[.slice none 0 0] 28)
    simpa using this
  (have e_w_W0 : Ext w ((w.alloc (.cells #[.slice A0 p.types.length c0, .slice A1 p.funcs.length c1] 25)).alloc (.cells #[.slice none 0 0] 28)) := (by repeat (first | assumption | exact Ext.refl _ | exact Ext.of_xt _ _ | apply Ext.alloc | apply Ext.drewN | apply Ext.drew)); have b_W0_0_0 := stays (w := (w.alloc (.cells #[.slice A0 p.types.length c0, .slice A1 p.funcs.length c1] 25)).alloc (.cells #[.slice none 0 0] 28)) (a := ⟨w.heap.size, 0, none⟩) (by first | (go_simp; rfl) | rfl); have b_W0_0_1 := stays (w := (w.alloc (.cells #[.slice A0 p.types.length c0, .slice A1 p.funcs.length c1] 25)).alloc (.cells #[.slice none 0 0] 28)) (a := ⟨w.heap.size, 1, none⟩) (by first | (go_simp; rfl) | rfl); have b_W0_1_0 := stays (w := (w.alloc (.cells #[.slice A0 p.types.length c0, .slice A1 p.funcs.length c1] 25)).alloc (.cells #[.slice none 0 0] 28)) (a := ⟨(w.heap.size + 1), 0, none⟩) (by first | (go_simp; rfl) | rfl); generalize (w.alloc (.cells #[.slice A0 p.types.length c0, .slice A1 p.funcs.length c1] 25)).alloc (.cells #[.slice none 0 0] 28) = W0 at e_w_W0 b_W0_0_0 b_W0_0_1 b_W0_1_0 hbx ⊢)
  go_wp2_with fail
  refine (flAsk_no p f 0 A0 A1 c0 c1 _ H0.out (HT.out.ext (by repeat (first | assumption | exact Ext.refl _ | exact Ext.of_xt _ _ | apply Ext.alloc | apply Ext.drewN | apply Ext.drew))) HS.out HW.out (HP.out.ext (by repeat (first | assumption | exact Ext.refl _ | exact Ext.of_xt _ _ | apply Ext.alloc | apply Ext.drewN | apply Ext.drew)))).mono ?_
  (rintro _ w1 ⟨rfl, hx_⟩; have e_w_w1 : Ext w w1 := Ext.trans (by repeat (first | assumption | exact Ext.refl _ | exact Ext.of_xt _ _ | apply Ext.alloc | apply Ext.drewN | apply Ext.drew)) hx_; have e_W0_w1 : Ext W0 w1 := Ext.trans (by repeat (first | assumption | exact Ext.refl _ | exact Ext.of_xt _ _ | apply Ext.alloc | apply Ext.drewN | apply Ext.drew)) hx_; clear hx_)
  have hbx1 := e_W0_w1.blk hbx
  have k0 := blk_cell hbx1 0
  have z0 := blk_frozen hbx1 0
  have hne : (flE p f 0 != 0) = true := by simp [H0.out]
  clear hbx hbx1
  generalize hE : flE p f 0 = e at *
  have HE := Aside0.mk hE
  clear hE
  go_wp2
  exact bodyPost_ret (v := .tuple #[.slice none 0 0, .int .i64 e]) (by simp [results, Tryd.results31, go_sem, k0]) rfl ⟨ret_vi HE.out.symm, Ext.set (by repeat (first | assumption | exact Ext.refl _ | exact Ext.of_xt _ _ | apply Ext.alloc | apply Ext.drewN | apply Ext.drew)) (Nat.le_succ _) _⟩

set_option maxRecDepth 100000 in
set_option maxHeartbeats 4000000 in
theorem flOrder_yes (h0 : flE p f 0 = 0) (hT : Tab w) (hs : SmP p) (hw : WfP p) (hp : AtP w p A0 A1) :
    Calls Tryd.prog 31 #[vPrg p A0 c0 A1 c1, .int .i64 f] w fun e w' => ∃ v, e = .returned (.tuple #[v, .int .i64 0]) ∧ OwnI w w' v (orP p f) ∧ Ext w w' := by
  have HT := Aside0.mk hT
  have HP := Aside0.mk hp
  have HS := Aside0.mk hs
  have HW := Aside0.mk hw
  have H0 := Aside0.mk h0
  clear hT hp hs hw h0
  unfold vPrg
  refine (callsIn_wide (n := 10)).1 ?_
  refine callsIn_of_wp_marks Tryd.func31 rfl trivial ?_ rfl
  simp only [Tryd.ntmps31, List.size_toArray, List.length_cons, List.length_nil, Nat.reduceAdd, Nat.reduceSub, Array.replicate_succ, Array.replicate_zero, List.push_toArray, List.append_toArray, List.nil_append, List.cons_append]
  gi_wp2_with fail
  refine ⟨trivial, ?_⟩
  have hbx : ((w.alloc (.cells #[.slice A0 p.types.length c0, .slice A1 p.funcs.length c1] 25)).alloc (.cells #[.slice none 0 0] 28)).heap[w.heap.size + 1]? = some (.cells #[.slice none 0 0] 28 (0, 0)) := by
    have := heap_new (w.alloc (.cells #[.slice A0 p.types.length c0, .slice A1 p.funcs.length c1] 25)) (.cells #[.slice none 0 0] 28)
    simpa using this
  have hsz : ((w.alloc (.cells #[.slice A0 p.types.length c0, .slice A1 p.funcs.length c1] 25)).alloc (.cells #[.slice none 0 0] 28)).heap.size = w.heap.size + 2 := by simp
  (have e_w_W0 : Ext w ((w.alloc (.cells #[.slice A0 p.types.length c0, .slice A1 p.funcs.length c1] 25)).alloc (.cells #[.slice none 0 0] 28)) := (by repeat (first | assumption | exact Ext.refl _ | exact Ext.of_xt _ _ | apply Ext.alloc | apply Ext.drewN | apply Ext.drew)); generalize (w.alloc (.cells #[.slice A0 p.types.length c0, .slice A1 p.funcs.length c1] 25)).alloc (.cells #[.slice none 0 0] 28) = W0 at e_w_W0 hbx hsz ⊢)
  refine (callsIn_wide.2 (flAsk_yes p f 0 A0 A1 c0 c1 _ H0.out (HT.out.ext (by repeat (first | assumption | exact Ext.refl _ | exact Ext.of_xt _ _ | apply Ext.alloc | apply Ext.drewN | apply Ext.drew))) HS.out HW.out (HP.out.ext (by repeat (first | assumption | exact Ext.refl _ | exact Ext.of_xt _ _ | apply Ext.alloc | apply Ext.drewN | apply Ext.drew))))).mono ?_
  rintro _ w1 ⟨B1, d1, rfl, hC, hcl, hx_⟩
  have e_W0_w1 := hx_
  have e_w_w1 : Ext w w1 := Ext.trans (by repeat (first | assumption | exact Ext.refl _ | exact Ext.of_xt _ _ | apply Ext.alloc | apply Ext.drewN | apply Ext.drew)) hx_
  have HC := Aside0.mk (hx_.C hC)
  obtain ⟨_, hf01, _, hb1⟩ := flE_zero H0.out
  have hbl := blocks_le HS.out hf01.1 hf01.2
  have HE := Aside0.mk (flE_edge H0.out)
  have HX := Aside0.mk (show orP p f = castL (orderL (toN (fnP p f).blocks) (fnP p f).blocks.length) by unfold orP; rw [if_pos H0.out])
  clear hC hx_ hf01
  generalize (fnP p f).blocks = bs at *
  gi_wp2_with fail
  refine ⟨trivial, ?_⟩
  have hr1 : Kd.C (Kd.int .i64) (w1.alloc (.cells #[.int .i64 0] 3)) (some ⟨w1.heap.size, 0, none⟩) [0].length (castL [0]) := C_litI [0] rfl (by simp) 3
  have e_w1_wA : Ext w1 (w1.alloc (.cells #[.int .i64 0] 3)) := (by repeat (first | assumption | exact Ext.refl _ | exact Ext.of_xt _ _ | apply Ext.alloc | apply Ext.drewN | apply Ext.drew))
  have hbxA := (e_W0_w1.trans e_w1_wA).blk hbx
  have hCA := e_w1_wA.C HC.out
  generalize w1.alloc (.cells #[.int .i64 0] 3) = wA at hr1 e_w1_wA hbxA hCA ⊢
  refine (callsIn_wide.2 (from_c bs HE.out hbl B1 d1 [0] (fun b hb => by obtain rfl : b = 0 := by simpa using hb
                                                                         omega) (by simp) (some ⟨w1.heap.size, 0, none⟩) 1 wA hCA hr1)).mono ?_
  rintro _ w3 ⟨v3, rfl, hv3, hx_⟩
  have hbx3 := hx_.blk hbxA
  have e_w_w3 : Ext w w3 := (e_w_w1.trans e_w1_wA).trans hx_
  have hv3x : v3.ownBlock ≠ some (w.heap.size + 1) := by
    intro e
    have := own_base (Kd.R_own hv3).choose_spec _ e
    have h1 := e_W0_w1.size
    have h2 := e_w1_wA.size
    omega
  have HI3 := Aside0.mk (Ints.own hv3 hv3x)
  obtain ⟨A3, N3, c3, rfl⟩ := hv3.isSlice
  clear hr1 hCA hx_ hbxA hv3 hv3x
  gi_wp2_with fail
  refine ⟨trivial, ?_⟩
  refine (callsIn_wide.2 (bwd_c A3 N3 c3 w3)).mono ?_
  rintro _ _ ⟨rfl, rfl⟩
  gi_wp2
  have hgl : (castL (gone (toN bs) bs.length [0])).length ≤ 20 := by
    have hg := gone_spec (toN bs) bs.length HE.out.inside [0] (fun b hb => by obtain rfl : b = 0 := by simpa using hb
                                                                              omega)
    have := nodup_le bs.length _ hg.nodup hg.small
    unfold castL
    rw [List.length_map]
    omega
  have e_w3_w4 : Ext w3 (w3.alloc (.cells #[.slice A3 N3 c3] 28)) := (by repeat (first | assumption | exact Ext.refl _ | exact Ext.of_xt _ _ | apply Ext.alloc | apply Ext.drewN | apply Ext.drew))
  have hbn : Boxed (w3.alloc (.cells #[.slice A3 N3 c3] 28)) w3.heap.size 28 (.slice A3 N3 c3) := Boxed.new _ _ _
  have hbo : Boxed (w3.alloc (.cells #[.slice A3 N3 c3] 28)) (w.heap.size + 1) 28 (.slice none 0 0) := e_w3_w4.blk hbx3
  have hsz4 : (w3.alloc (.cells #[.slice A3 N3 c3] 28)).heap.size = w3.heap.size + 1 := by simp
  have hbl1 : w.heap.size + 1 < w3.heap.size := blk_lt hbx3
  have e_w_w4 := e_w_w3.trans e_w3_w4
  have HI4 := Aside0.mk ((HI3.out.below e_w3_w4.b).up (n₁ := w3.heap.size + 1) (by omega))
  clear HI3 hbx3 e_w3_w4
  generalize w3.alloc (.cells #[.slice A3 N3 c3] 28) = w4 at *
  obtain ⟨i0, hi, hz0, hz1, hz2⟩ := info_parts infoInt
  refine wpIn_rangeFunc_ownG rfl (by decide) (gf := 92) (lb := #[.pointer (some ⟨w3.heap.size, 0, none⟩)]) rfl trivial (enters_of Tryd.func92 (by kernel_rfl) rfl)
    (bwd_stops Fence.wide 9 trivial rfl (by decide) w3.heap.size (w.heap.size + 1) (w3.heap.size + 1) _ _ (by omega) w4 (by omega) ⟨by omega, by omega⟩ (by omega) hbn.cell HI4.out) Kb.trans (Kb.put (by omega)) (Below.refl _ _) (fun _ => rfl)
    (fun pre W => (∃ v, Boxed W (w.heap.size + 1) 28 v ∧ W.ownsRow (w3.heap.size + 1) 3 1 v pre.length ((pre.map fun x : Nat × Int => x.2).map (Value.int .i64)) ∧ True) ∧ Below w.heap.size w4 W)
    (fun _ _ _ => False)
    (OwnFrom.and (Own.from (holdsRow_own (w3.heap.size + 1) (w.heap.size + 1) 28 3 1 (fun pre : List (Nat × Int) => pre.length) (fun pre => (pre.map fun x : Nat × Int => x.2).map (Value.int .i64)) (fun _ _ => True)) _) (ownFrom_below (by omega) (by omega)))
    (fun _ _ _ _ _ hs _ _ => hs)
    ⟨⟨_, hbo, World.ownsRow_nil _ _ _ _, trivial⟩, Below.refl _ _⟩
    (fun x => { tmps := #[.agg #[.slice A0 p.types.length c0, .slice A1 p.funcs.length c1], .int .i64 f, .pointer (some ⟨w.heap.size, 0, none⟩), undef, .pointer (some ⟨w.heap.size + 1, 0, none⟩), .int .i64 0, .slice B1 bs.length d1, undef, .int .i64 x.2, .tuple #[.slice B1 bs.length d1, .int .i64 0], .agg #[.slice A0 p.types.length c0, .slice A1 p.funcs.length c1], .int .i64 f, .tuple #[.slice B1 bs.length d1, .int .i64 0], .slice B1 bs.length d1, .int .i64 0, .int .i64 0, .bool false, undef, .slice B1 bs.length d1, .slice (some ⟨w1.heap.size, 0, none⟩) 1 1, .slice A3 N3 c3, .func (.func 92) #[] #[.pointer (some ⟨w3.heap.size, 0, none⟩)], .int .i64 (x.1 : Int), .int .i64 x.2, undef, undef, undef, undef, undef], defers := [] }) ?assign ?body ?done ?stop
  case assign =>
    intro l x W K hK
    gi_wp2
    exact hK
  case body =>
    rintro l pre x W ⟨⟨v, hv, hrow, _⟩, hB⟩ hlt
    have hc := hv.cell
    have hWs := hB.size
    gi_wp2_with (gi_at_builtin; refine wpListIn_append_own _ rfl _ _ 28 rfl (w3.heap.size + 1) 3 i0 (.int .i64 0) 1 8 Tryd.underlying28 hi hz0 hz1 hz2 rfl (by decide) _ _ _ rfl (hrow.alloc _) ⟨W.heap.size, 0, none⟩ 1 1 [.int .i64 x.2] rfl rfl (cell_one_new _ _ _) (by simp [Value.oneCell']) (by unfold maxLen; omega) (by omega) (by simp; omega) ?_; intro v' w1 hown' hgrow _; obtain ⟨g', cap', rfl⟩ := ownsRow_succ hown'; obtain ⟨hv1, hv2, hr2, hk2, hkb, hb2⟩ := Boxed.app2 hv (by decide) hrow (by omega) hown' hgrow; have hc1 := hv1.cell; have hf1 := hv1.frozen)
    exact ⟨hk2.from _, hkb, ⟨_, hv2, by simpa using hr2, trivial⟩, hB.trans (hb2 _ (by omega) (by omega))⟩
  case done =>
    rintro D ys W hD rfl ⟨⟨v, hv, hrow, _⟩, hB⟩ hK
    have hc := hv.cell
    have hf := hv.frozen
    have hWs := hB.size
    have hrl : (back (castL (gone (toN bs) bs.length [0]))).map (fun x : Nat × Int => x.2) = castL (orderL (toN bs) bs.length) := by
      rw [back_map]; unfold castL orderL; rw [List.map_reverse]
    rw [hrl] at hrow
    have hln : (back (castL (gone (toN bs) bs.length [0]))).length = (castL (orderL (toN bs) bs.length)).length := by rw [← hrl, List.length_map]
    rw [hln] at hrow
    obtain ⟨Av, cv, rfl⟩ := own_slice hrow
    have hsv := KeepsOthers.setCell W ⟨w.heap.size + 1, 0, none⟩ (.slice Av (castL (orderL (toN bs) bs.length)).length cv)
    have hrow2 := hrow.kept (grownBy_setCell' W (w.heap.size + 1) (.slice Av (castL (orderL (toN bs) bs.length)).length cv)) (.inr (hv.not_row (by decide) hrow).symm)
    have hB2 := hB.setCell (p := ⟨w.heap.size + 1, 0, none⟩) (by simp) (.slice Av (castL (orderL (toN bs) bs.length)).length cv)
    have hc2 := World.cell?_setCell_same' W ⟨w.heap.size + 1, 0, none⟩ (.slice Av (castL (orderL (toN bs) bs.length)).length cv) (by rw [hc]; rfl)
    have HRL := Aside0.mk hrl
    have HOR := Aside0.mk hrow2
    have HSV := Aside0.mk hsv
    have HB2 := Aside0.mk hB2
    have HC2 := Aside0.mk hc2
    have HKD := Aside0.mk hK
    clear hrl hln hrow hsv hrow2 hB2 hc2
    generalize hN : (castL (orderL (toN bs) bs.length)).length = N at *
    have HN := Aside0.mk hN
    clear hN
    gi_wp2
    have hK' := HSV.out.same D _ HKD.out rfl
    refine ⟨by simp, .inl ⟨_, _, rfl, run_takeDeferred hK', ?_⟩⟩
    have hc5 := cell_kept HC2.out (grownBy_putObj' _ D (.deferred none)) (fun r e => by cases e; exact ⟨_, hK', rfl⟩)
    refine ⟨.tuple #[.slice Av N cv, .int .i64 0], by simp [results, Tryd.f31, go_sem, hc5], _, rfl, ?_, ?_⟩
    · rw [HX.out]
      refine Kd.R_of_own ?_ (fun _ _ => trivial)
      have hrw := own_weaken (base' := w.heap.size) (ownsRow_putObj HOR.out (.deferred none) hK' rfl) (by omega)
      rw [← HN.out] at hrw ⊢
      simpa [encs, nums] using hrw
    · exact ⟨e_w_w4.b.trans (HB2.out.trans (belowK_b (w := w4) e_w_w4.size _ D _ _ hD hK' rfl rfl))⟩
  case stop =>
    rintro D c pre W _ _ h _
    exact h.elim

theorem flOrder_c (hT : Tab w) (hs : SmP p) (hw : WfP p) (hp : AtP w p A0 A1) :
    Calls Tryd.prog 31 #[vPrg p A0 c0 A1 c1, .int .i64 f] w fun e w' => ∃ v, e = .returned (.tuple #[v, .int .i64 (flE p f 0)]) ∧ OwnI w w' v (orP p f) ∧ Ext w w' := by
  by_cases h0 : flE p f 0 = 0
  · refine (flOrder_yes p f A0 A1 c0 c1 w h0 hT hs hw hp).mono ?_
    rintro e w' ⟨v, rfl, h⟩
    exact ⟨v, by rw [h0], h⟩
  · refine (flOrder_no p f A0 A1 c0 c1 w h0 hT hs hw hp).mono ?_
    rintro e w' ⟨rfl, h⟩
    exact ⟨_, rfl, by unfold orP; rw [if_neg h0]; exact OwnI.nil _ _, h⟩
end
end Go.Proofs.YtjbnabjjbofhjaaDoor.Fes
