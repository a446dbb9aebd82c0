/- Package dom: the rulers of a function, round by round. -/
import Derived.Test.YtjbnabjjbofhjaaDoorDo1
import Derived.Test.YtjbnabjjbofhjaaDoorDo2
import Derived.Test.YtjbnabjjbofhjaaDoorFl6
import Derived.Test.YtjbnabjjbofhjaaDoorPf
import Derived.WalkMore
import Derived.ChangeKeysEq
set_option linter.unusedVariables false
set_option linter.unusedSimpArgs false
namespace Go.Proofs.YtjbnabjjbofhjaaDoor.Fes
open Go.RowKit Go.Proofs.YtjbnabjjbofhjaaDoorW.PrintWords

theorem castL_ln (l : List Nat) : (castL l).length = l.length := by simp [castL]
theorem castL_ix (l : List Nat) (k : Nat) (h : k < l.length) : (castL l)[k]'(by rw [castL_ln]; exact h) = (l[k] : Int) := by simp [castL]
theorem nodup_ix {l : List Nat} (h : l.Nodup) {i j : Nat} (hi : i < l.length) (hj : j < l.length) (e : l[i] = l[j]) : i = j := by
  rcases Nat.lt_trichotomy i j with hlt | rfl | hlt
  · exact absurd e (List.pairwise_iff_getElem.1 h i j hi hj hlt)
  · rfl
  · exact absurd e.symm (List.pairwise_iff_getElem.1 h j i hj hi hlt)
theorem cut1 (A : Option Addr) (n c : Nat) (h : 1 ≤ n) : ∃ A', (∀ W : World, (Instr.slice 28 (.slice A n c) (some (.int .i64 1)) none none).run Tryd.prog W = .ok (.slice A' (n - 1) (c - 1)) W) ∧
    ∀ (W : World) (xs : List Int), xs.length = n → n ≤ c → Kd.C (Kd.int .i64) W A xs.length xs → Kd.C (Kd.int .i64) W A' (xs.drop 1).length (xs.drop 1) := by
  obtain ⟨i0, hi, hz0, hz1, hz2⟩ := info_parts infoInt
  refine ⟨if c = 1 then A else A.map (·.add 1), fun W => ?_, fun W xs hx hc hC => by have := Kd.C_drop hC (m := 1) (by omega) (by omega : xs.length ≤ c); rwa [show 1 * (Kd.int .i64).sz = 1 from rfl] at this⟩
  have hel : Tryd.prog.elem 28 = 3 := by simp [Program.elem, Tryd.underlying28]
  have hu : Tryd.prog.underlying 28 = some (.slice (Tryd.prog.elem 28)) := by rw [hel]; exact Tryd.underlying28
  rw [run_slice_l W 28 A n c hu .i64 1 (by omega) (by omega), hel]
  simp [sizeOf, typeInfo, hi, hz1, sliced, Result.andThen]
theorem RuB.rangeN {W : World} {g : Nat} {ns os : List Int} (h : RuB W g ns os) : W.rangeAt g 0 (nums .i64 ns) := fun j v hv => by
  have hj : j < ns.length := by simpa [nums] using (List.getElem?_eq_some_iff.1 hv).1
  rw [Nat.zero_add, blk_cell h.blk j]
  simp only [nums, List.getElem?_toArray, List.map_append]
  rw [List.getElem?_append_left (by simpa using hj)]
  exact hv
/-- the blocks ahead of one, as numbers -/
def pdN (bs : List Blk) (b : Nat) : List Nat := (List.range bs.length).filter fun a => (toN bs a).contains b
theorem prL_pd {bs : List Blk} (hE : EdgeOk bs) (b : Nat) : prL bs (b : Int) bs.length = castL (pdN bs b) := by
  unfold prL castL pdN
  congr 1
  apply List.filter_congr
  intro a ha
  have ha' : a < bs.length := by simpa using ha
  unfold isPred
  have hc : toE (bs.getD a zBlk).en = castL (toN bs a) := by
    rw [List.getD_eq_getElem?_getD, List.getElem?_eq_getElem ha']
    exact hE.cast ha'
  rw [hc, contains_cast]
theorem mem_pdN {bs : List Blk} {b a : Nat} : a ∈ pdN bs b ↔ a < bs.length ∧ b ∈ toN bs a := by simp [pdN]
theorem pdN_len (bs : List Blk) (b : Nat) : (pdN bs b).length ≤ bs.length := Nat.le_trans (List.length_filter_le _ _) (by simp)
theorem run_items_int (d : Nat) (xs ys : List Int) (W : World) : ∀ is : List Nat, (∀ i ∈ is, i < xs.length ∧ i < ys.length) →
    (Op.eqItems (d + 1) 3 1 (nums .i64 xs).toArray (nums .i64 ys).toArray is).run Tryd.prog W = .ok (is.all fun i => nxF xs i == nxF ys i) W
  | [], _ => by simp [Op.eqItems]
  | i :: is, h => by
    obtain ⟨h1, h2⟩ := h i (by simp)
    have ih := run_items_int d xs ys W is (fun j hj => h j (by simp [hj]))
    have e1 : (nums .i64 xs).toArray[i]? = some (.int .i64 (nxF xs i)) := by
      rw [List.getElem?_toArray, nxF_at h1]; simp [nums, h1]
    have e2 : (nums .i64 ys).toArray[i]? = some (.int .i64 (nxF ys i)) := by
      rw [List.getElem?_toArray, nxF_at h2]; simp [nums, h2]
    have p1 := run_part_plain (P := Tryd.prog) W (e := 3) (by kernel_rfl) e1
    have p2 := run_part_plain (P := Tryd.prog) W (e := 3) (by kernel_rfl) e2
    rw [Op.eqItems]
    simp only [Nat.mul_one, Sem.run_bind, p1, p2, Result.andThen_ok, run_equalIn_int W d 3 .i64 .i64 _ _ Tryd.underlying3]
    cases hq : (nxF xs i == nxF ys i)
    · simp [hq]
    · simp only [Bool.not_true, Bool.false_eq_true, if_false, List.all_cons, hq, Bool.true_and]
      exact ih
theorem run_eq16 (xs ys : List Int) (hx : xs.length = 16) (hy : ys.length = 16) (W : World) :
    (Op.equalIn 10000 98 (.agg (nums .i64 xs).toArray) (.agg (nums .i64 ys).toArray)).run Tryd.prog W = .ok (decide (xs = ys)) W := by
  obtain ⟨i0, hi, hz0, hz1, hz2⟩ := info_parts infoInt
  have hc : Tryd.prog.cellsOf 3 = 1 := by kernel_rfl
  rw [run_equalIn_array W 9999 (nums .i64 xs).toArray (nums .i64 ys).toArray Tryd.underlying98 hi, hc, run_items_int 9998 xs ys W (List.range 16) (fun i hi => by simp at hi; omega)]
  refine congrArg (fun b => Result.ok b W) ?_
  rw [Bool.eq_iff_iff, List.all_eq_true, decide_eq_true_eq]
  constructor
  · intro h
    apply List.ext_getElem (by omega)
    intro i h1 h2
    have := h i (by simp; omega)
    rw [nxF_at h1, nxF_at h2] at this
    simpa using this
  · rintro rfl i _
    simp
theorem endB_kind {x : En} {r n : Int} (h : endB x r n = true) : x.kind = 1 ∨ x.kind = 2 ∨ x.kind = 3 := by
  unfold endB at h
  by_cases h1 : x.kind = 1
  · exact .inl h1
  · by_cases h2 : x.kind = 2
    · exact .inr (.inl h2)
    · by_cases h3 : x.kind = 3
      · exact .inr (.inr h3)
      · rw [if_neg h1, if_neg h2, if_neg h3] at h
        cases h
theorem flE_fun {p : Prg} {f b : Int} (h : flE p f b = 0) : funB p (fnP p f) = true := by
  obtain ⟨hc, ⟨f0, f1⟩, _, _⟩ := flE_zero h
  obtain ⟨k, rfl⟩ := Int.eq_ofNat_of_zero_le f0
  have hk : k < p.funcs.length := by omega
  rw [fnP_at hk]
  exact chkP_funB hc _ (List.getElem_mem hk)
theorem flE_kind {p : Prg} {f b : Int} (h : flE p f b = 0) : KindOk (fnP p f).blocks := by
  have hf := flE_fun h
  unfold funB at hf
  simp only [Bool.and_eq_true] at hf
  intro x hx
  have h1 := List.all_eq_true.1 hf.2 x hx
  unfold blkB at h1
  simp only [Bool.and_eq_true] at h1
  exact endB_kind h1.2
theorem flE_16 {p : Prg} {f b : Int} (h : flE p f b = 0) : (fnP p f).blocks.length ≤ 16 := by
  have hf := flE_fun h
  unfold funB at hf
  simp only [Bool.and_eq_true] at hf
  have := belB_iff.1 hf.1.1.2
  omega
section
variable {W : World} {g : Nat} {ns os : List Int}
theorem RuB.setN (h : RuB W g ns os) {b : Nat} (hb : b < 16) (v : Int) : RuB (W.setCell ⟨g, b, none⟩ (.int .i64 v)) g (ns.set b v) os := by
  refine ⟨?_, by rw [List.length_set]; exact h.ln, h.lo⟩
  have := blk_set h.blk b (.int .i64 v)
  have e : (nums .i64 (ns ++ os)).toArray.setIfInBounds b (.int .i64 v) = (nums .i64 (ns.set b v ++ os)).toArray := by
    rw [List.setIfInBounds_toArray]
    congr 1
    unfold nums
    rw [← List.map_set, List.set_append_left _ _ (by rw [h.ln]; exact hb)]
  rwa [e] at this
theorem RuB.setO (h : RuB W g ns os) {b : Nat} (hb : b < 16) (v : Int) : RuB (W.setCell ⟨g, 16 + b, none⟩ (.int .i64 v)) g ns (os.set b v) := by
  refine ⟨?_, h.ln, by rw [List.length_set]; exact h.lo⟩
  have := blk_set h.blk (16 + b) (.int .i64 v)
  have e : (nums .i64 (ns ++ os)).toArray.setIfInBounds (16 + b) (.int .i64 v) = (nums .i64 (ns ++ os.set b v)).toArray := by
    rw [List.setIfInBounds_toArray]
    congr 1
    unfold nums
    rw [← List.map_set, List.set_append_right _ _ (by rw [h.ln]; omega), show 16 + b - ns.length = b by rw [h.ln]; omega]
  rwa [e] at this
end
theorem nxF_set {ns : List Int} {b : Nat} (hb : b < ns.length) (v : Int) (x : Nat) : nxF (ns.set b v) x = if x = b then v else nxF ns x := by
  unfold nxF
  rw [List.getD_eq_getElem?_getD, List.getD_eq_getElem?_getD, List.getElem?_set]
  by_cases e : b = x
  · subst e; simp [hb]
  · rw [if_neg e, if_neg (fun h => e h.symm)]
theorem nxF_turned {ns : List Int} {b m : Nat} (hb : b < ns.length) : nxF (ns.set b (m : Int)) = turned (nxF ns) b m := by
  funext x
  rw [nxF_set hb]
  rfl
theorem nxF_out {ns : List Int} {b : Nat} (h : ns.length ≤ b) : nxF ns b = -1 := by simp [nxF, List.getD_eq_getElem?_getD, List.getElem?_eq_none h]

section
variable {w W : World} {g t : Nat}
theorem setCells_over : ∀ (us : List Value) (o : Nat) (W : World) (cs : Array Value), W.heap[g]? = some (.cells cs t (0, 0)) → o + us.length ≤ cs.size →
    ∃ cs' : Array Value, (W.setCells g o us).heap[g]? = some (.cells cs' t (0, 0)) ∧ cs'.size = cs.size ∧ ∀ j, cs'[j]? = if o ≤ j ∧ j < o + us.length then us[j - o]? else cs[j]?
  | [], o, W, cs, h, _ => ⟨cs, h, rfl, fun j => by rw [if_neg (by simp)]⟩
  | u :: us, o, W, cs, h, hl => by
    have hl' : o + us.length + 1 ≤ cs.size := by simp at hl; omega
    obtain ⟨cs', h1, h2, h3⟩ := setCells_over us (o + 1) (W.setCell ⟨g, o, none⟩ u) _ (blk_set h o u) (by rw [Array.size_setIfInBounds]; omega)
    refine ⟨cs', h1, by rw [h2, Array.size_setIfInBounds], fun j => ?_⟩
    rw [h3]
    simp only [List.length_cons]
    by_cases e : j = o
    · subst e
      rw [if_neg (by omega), if_pos (by omega), Nat.sub_self, Array.getElem?_setIfInBounds_self_of_lt (by omega)]
      rfl
    · by_cases e2 : o + 1 ≤ j ∧ j < o + 1 + us.length
      · rw [if_pos e2, if_pos (by omega), show j - o = (j - (o + 1)) + 1 by omega]
        rfl
      · rw [if_neg e2, if_neg (by omega), Array.getElem?_setIfInBounds_ne (fun h => e h.symm)]
theorem setCells_full {us : List Value} {cs : Array Value} (h : W.heap[g]? = some (.cells cs t (0, 0))) (hl : cs.size = us.length) : (W.setCells g 0 us).heap[g]? = some (.cells us.toArray t (0, 0)) := by
  obtain ⟨cs', h1, h2, h3⟩ := setCells_over us 0 W cs h (by omega)
  rw [h1]
  congr 2
  apply Array.ext_getElem?
  intro j
  rw [h3]
  split
  · simp
  · rename_i hj
    rw [Array.getElem?_eq_none (by omega), Array.getElem?_eq_none (by simp; omega)]
theorem setCells_ext (hx : Ext w W) (hg : w.heap.size ≤ g) : ∀ (us : List Value) (o : Nat), Ext w (W.setCells g o us) := by
  intro us
  induction us generalizing W with
  | nil => intro o; exact hx
  | cons u us ih => intro o; exact ih (Ext.set hx hg u) (o + 1)
end

set_option maxRecDepth 100000 in
set_option maxHeartbeats 8000000 in
theorem of_c (p : Prg) (f : Int) (A0 A1 : Option Addr) (c0 c1 : Nat) (w : World) (h0 : flE p f 0 = 0) (hT : Tab w) (hs : SmP p) (hw : WfP p) (hp : AtP w p A0 A1) :
    Calls Tryd.prog 93 #[vPrg p A0 c0 A1 c1, .int .i64 f] w fun e w' => ∃ g ns os, e = .returned (.pointer (some ⟨g, 0, none⟩)) ∧ RuB w' g ns os ∧ Rests (toF p f) (odB (toF p f) (nF p f)) (nxF ns) ∧ OrdS (toF p f) (odB (toF p f) (nF p f)) os ∧ Ext w w' := by
  have HT := Aside0.mk hT
  have HP := Aside0.mk hp
  have HS := Aside0.mk hs
  have HW := Aside0.mk hw
  have H0 := Aside0.mk h0
  have hE := flE_edge h0
  have hK := flE_kind h0
  have hn16 := flE_16 h0
  obtain ⟨_, hf, _, b1⟩ := flE_zero h0
  have HI := Aside0.mk (show Inside (toF p f) (nF p f) from hE.inside)
  have hn0 : 0 < nF p f := by show 0 < (fnP p f).blocks.length; omega
  have hfl := hs.fl
  have HX := Aside0.mk (show orP p f = castL (orderL (toF p f) (nF p f)) by unfold orP; rw [if_pos h0])
  obtain ⟨k, rfl⟩ := Int.eq_ofNat_of_zero_le hf.1
  have hk : k < p.funcs.length := by omega
  have HFN := Aside0.mk (fnP_at hk)
  have HE := Aside0.mk hE
  have HK := Aside0.mk hK
  clear hT hp hs hw h0 hE hK hf b1
  unfold vPrg
  go_enter Tryd.func93, Tryd.ntmps93
  go_upto_region 1 with (fail)
  (have e_w_W0 : Ext w (w.alloc (.cells #[.slice A0 p.types.length c0, .slice A1 p.funcs.length c1] 25)) := (by repeat (first | assumption | exact Ext.refl _ | exact Ext.of_xt _ _ | apply Ext.alloc | apply Ext.drewN | apply Ext.drew)); have b_W0_0_0 := stays (w := w.alloc (.cells #[.slice A0 p.types.length c0, .slice A1 p.funcs.length c1] 25)) (a := ⟨w.heap.size, 0, none⟩) (by first | (go_simp; rfl) | rfl); have b_W0_0_1 := stays (w := w.alloc (.cells #[.slice A0 p.types.length c0, .slice A1 p.funcs.length c1] 25)) (a := ⟨w.heap.size, 1, none⟩) (by first | (go_simp; rfl) | rfl); generalize w.alloc (.cells #[.slice A0 p.types.length c0, .slice A1 p.funcs.length c1] 25) = W0 at e_w_W0 b_W0_0_0 b_W0_0_1 ⊢)
  go_step3
  go_wp2_with fail
  refine (flOrder_yes p k A0 A1 c0 c1 _ H0.out (HT.out.ext (by repeat (first | assumption | exact Ext.refl _ | exact Ext.of_xt _ _ | apply Ext.alloc | apply Ext.drewN | apply Ext.drew))) HS.out HW.out (HP.out.ext (by repeat (first | assumption | exact Ext.refl _ | exact Ext.of_xt _ _ | apply Ext.alloc | apply Ext.drewN | apply Ext.drew)))).mono ?_
  rintro _ w1 ⟨v1, rfl, hv1, hx_⟩
  have e_w_w1 := e_w_W0.trans hx_
  have e_W0_w1 := hx_
  rw [HX.out] at hv1
  obtain ⟨oA, oc, rfl, hol, hoC⟩ := hv1.reads
  have HO1 := Aside0.mk hoC
  have HO1x := Aside0.mk hoC
  have HND := Aside0.mk (orderL_nodup HI.out hn0)
  have HSM := Aside0.mk (orderL_small HI.out hn0)
  have HMEM := Aside0.mk (mem_orderL HI.out hn0)
  have HOA := Aside0.mk (odB_at HI.out hn0)
  have HNU := Aside0.mk (odB_nums HI.out hn0)
  have HZL := Aside0.mk (orderL_zero (toF p k) (nF p k))
  rw [castL_ln] at hol ⊢
  clear hv1 hx_ hoC
  have HOLL := Aside0.mk (show (orderL (toF p k) (nF p k)).length ≤ 16 from Nat.le_trans (nodup_le (nF p k) _ HND.out HSM.out) hn16)
  generalize hol_ : orderL (toF p k) (nF p k) = ol at *
  have HOL := Aside0.mk hol_
  have holl := HOLL.out
  clear hol_
  obtain ⟨ad, B1, d1, he_, y0, y1, ly, gy⟩ := at_Fc (e_w_w1.C HP.out.cf) k hk
  subst he_
  rw [← HFN.out] at y0 y1 ly gy
  have GY := Aside0.mk gy
  clear gy ly
  go_wp2_with fail
  refine (ahead_c (fnP p k).blocks HE.out HK.out hn16 B1 d1 _ GY.out).mono ?_
  rintro _ w2 ⟨vs, rfl, hvl, hvs, hx_⟩
  have e_w_w2 := e_w_w1.trans hx_
  have e_w1_w2 := hx_
  have HVS := Aside0.mk hvs
  have HVL := Aside0.mk hvl
  have HVO := Aside0.mk (show ∀ v ∈ vs, v.oneCell' = true from fun v hv => by
    obtain ⟨i, hi, he⟩ := List.getElem_of_mem hv
    obtain ⟨A, n, c, rfl⟩ := (hvs i v (by rw [List.getElem?_eq_getElem hi, he])).isSlice
    rfl)
  have HLI := Aside0.mk (show (Tryd.prog.info? 151).map (·.size) = some vs.length by rw [hvl]; kernel_rfl)
  have hz0 := heap_new w2 (.cells #[.slice none 0 0, .slice none 0 0, .slice none 0 0, .slice none 0 0, .slice none 0 0, .slice none 0 0, .slice none 0 0, .slice none 0 0, .slice none 0 0, .slice none 0 0, .slice none 0 0, .slice none 0 0, .slice none 0 0, .slice none 0 0, .slice none 0 0, .slice none 0 0] 151)
  have HTH := Aside0.mk (show (w2.alloc (.cells #[.slice none 0 0, .slice none 0 0, .slice none 0 0, .slice none 0 0, .slice none 0 0, .slice none 0 0, .slice none 0 0, .slice none 0 0, .slice none 0 0, .slice none 0 0, .slice none 0 0, .slice none 0 0, .slice none 0 0, .slice none 0 0, .slice none 0 0, .slice none 0 0] 151)).there w2.heap.size 0 vs.length from fun j hj => by
    rw [Nat.zero_add, blk_cell hz0 j]
    exact ⟨by rw [Array.getElem?_eq_getElem (by simp; omega)]; rfl, blk_frozen hz0 j⟩)
  have HF := Aside0.mk (setCells_full (us := vs) hz0 (by rw [hvl]; rfl))
  have HG := Aside0.mk (setCells_ext (w := w2) (g := w2.heap.size) (Ext.alloc (Ext.refl w2) (.cells #[.slice none 0 0, .slice none 0 0, .slice none 0 0, .slice none 0 0, .slice none 0 0, .slice none 0 0, .slice none 0 0, .slice none 0 0, .slice none 0 0, .slice none 0 0, .slice none 0 0, .slice none 0 0, .slice none 0 0, .slice none 0 0, .slice none 0 0, .slice none 0 0] 151)) (Nat.le_refl _) vs 0)
  clear hvs hvl hz0 hx_
  go_upto_region 3 with (first | (refine wpList_store_mid rfl 151 _ _ rfl w2.heap.size 0 vs.toArray rfl rfl (by simpa using HTH.out) (by simpa using HLI.out) (all_oneCell_toArray HVO.out) ?_))
  obtain ⟨g7, hg7⟩ : ∃ g7, g7 = w2.heap.size := ⟨_, rfl⟩
  rw [← hg7] at HF HG ⊢
  obtain ⟨W3, hW3⟩ : ∃ W3, W3 = (w2.alloc (.cells #[.slice none 0 0, .slice none 0 0, .slice none 0 0, .slice none 0 0, .slice none 0 0, .slice none 0 0, .slice none 0 0, .slice none 0 0, .slice none 0 0, .slice none 0 0, .slice none 0 0, .slice none 0 0, .slice none 0 0, .slice none 0 0, .slice none 0 0, .slice none 0 0] 151)).setCells g7 0 vs := ⟨_, rfl⟩
  rw [← hW3] at HF HG ⊢
  have e_w2_W3 : Ext w2 W3 := HG.out
  have e_w_W3 := e_w_w2.trans e_w2_W3
  clear hW3 hg7 HTH HLI HVO HG
  go_upto_region 4 with (fail)
  have hr0 := heap_new W3 (.cells #[.int .i64 0, .int .i64 0, .int .i64 0, .int .i64 0, .int .i64 0, .int .i64 0, .int .i64 0, .int .i64 0, .int .i64 0, .int .i64 0, .int .i64 0, .int .i64 0, .int .i64 0, .int .i64 0, .int .i64 0, .int .i64 0, .int .i64 0, .int .i64 0, .int .i64 0, .int .i64 0, .int .i64 0, .int .i64 0, .int .i64 0, .int .i64 0, .int .i64 0, .int .i64 0, .int .i64 0, .int .i64 0, .int .i64 0, .int .i64 0, .int .i64 0, .int .i64 0] 100)
  have HR0 := Aside0.mk (show RuB (W3.alloc (.cells #[.int .i64 0, .int .i64 0, .int .i64 0, .int .i64 0, .int .i64 0, .int .i64 0, .int .i64 0, .int .i64 0, .int .i64 0, .int .i64 0, .int .i64 0, .int .i64 0, .int .i64 0, .int .i64 0, .int .i64 0, .int .i64 0, .int .i64 0, .int .i64 0, .int .i64 0, .int .i64 0, .int .i64 0, .int .i64 0, .int .i64 0, .int .i64 0, .int .i64 0, .int .i64 0, .int .i64 0, .int .i64 0, .int .i64 0, .int .i64 0, .int .i64 0, .int .i64 0] 100)) W3.heap.size (List.replicate 16 0) (List.replicate 16 0) from ⟨hr0, rfl, rfl⟩)
  have e_W3_W4 : Ext W3 (W3.alloc (.cells #[.int .i64 0, .int .i64 0, .int .i64 0, .int .i64 0, .int .i64 0, .int .i64 0, .int .i64 0, .int .i64 0, .int .i64 0, .int .i64 0, .int .i64 0, .int .i64 0, .int .i64 0, .int .i64 0, .int .i64 0, .int .i64 0, .int .i64 0, .int .i64 0, .int .i64 0, .int .i64 0, .int .i64 0, .int .i64 0, .int .i64 0, .int .i64 0, .int .i64 0, .int .i64 0, .int .i64 0, .int .i64 0, .int .i64 0, .int .i64 0, .int .i64 0, .int .i64 0] 100)) := Ext.alloc (Ext.refl _) _
  have hgR : W3.heap.size ≤ W3.heap.size := Nat.le_refl _
  clear hr0
  obtain ⟨g, hg⟩ : ∃ g, g = W3.heap.size := ⟨_, rfl⟩
  have HGR := Aside0.mk (show W3.heap.size ≤ g by omega)
  rw [← hg] at HR0 ⊢
  generalize W3.alloc (.cells #[.int .i64 0, .int .i64 0, .int .i64 0, .int .i64 0, .int .i64 0, .int .i64 0, .int .i64 0, .int .i64 0, .int .i64 0, .int .i64 0, .int .i64 0, .int .i64 0, .int .i64 0, .int .i64 0, .int .i64 0, .int .i64 0, .int .i64 0, .int .i64 0, .int .i64 0, .int .i64 0, .int .i64 0, .int .i64 0, .int .i64 0, .int .i64 0, .int .i64 0, .int .i64 0, .int .i64 0, .int .i64 0, .int .i64 0, .int .i64 0, .int .i64 0, .int .i64 0] 100) = W4 at HR0 e_W3_W4 ⊢
  clear hg hgR
  go_wp2_with fail
  go_loopw [33] (fun i wr => ∃ (q : Nat), q ≤ 16 ∧ i = .int .i64 q ∧ Aside0 (∃ ns os, RuB wr g ns os ∧ ∀ x, x < q → nxF ns x = -1 ∧ nxF os x = -1) ∧ Ext W3 wr) (fun i _ => 16 - (intOf i).toNat)
  case atStart => exact ⟨0, by omega, rfl, ⟨_, _, HR0.out, fun x hx => by omega⟩, e_W3_W4⟩
  case round =>
    obtain ⟨q, hq, rfl, hR, e_W3_wr⟩ := hrel
    obtain ⟨ns, os, hB, hm⟩ := hR.out
    clear hR HR0
    by_cases hlt : q < 16
    case pos =>
      have k1 := hB.next hlt
      have k2 := hB.ord hlt
      have f1 := hB.frozen q
      have f2 := hB.frozen (16 + q)
      have q0 : (0 : Int) ≤ (q : Int) := by omega
      have q1 : (q : Int) < 16 := by omega
      have HB := Aside0.mk hB
      have HM := Aside0.mk hm
      clear hB hm
      go_upto_region 7 with (fail)
      go_region
      have HB2 := Aside0.mk ((HB.out.setN hlt (-1)).setO hlt (-1))
      have HM2 := Aside0.mk (show ∀ x, x < q + 1 → nxF (ns.set q (-1)) x = -1 ∧ nxF (os.set q (-1)) x = -1 by
        intro x hx
        rw [nxF_set (by rw [HB.out.ln]; exact hlt), nxF_set (by rw [HB.out.lo]; exact hlt)]
        by_cases e : x = q
        · rw [if_pos e, if_pos e]; exact ⟨rfl, rfl⟩
        · rw [if_neg e, if_neg e]; exact HM.out x (by omega))
      have e_W3_w5 := Ext.set (Ext.set e_W3_wr (p := ⟨g, q, none⟩) HGR.out (.int .i64 (-1))) (p := ⟨g, 16 + q, none⟩) HGR.out (.int .i64 (-1))
      clear k1 k2 f1 f2
      go_wp2
      go_roundw
      case rel => exact ⟨q + 1, by omega, by go_num, ⟨_, _, HB2.out.ext (Ext.drew (Ext.refl _)), HM2.out⟩, Ext.drew e_W3_w5⟩
      case measure => simp [intOf]; omega
    case neg =>
      obtain rfl : q = 16 := by omega
      rw [show (((16 : Nat) : Nat) : Int) = (16 : Int) from rfl]
      obtain ⟨W5, hW5⟩ : ∃ W5, W5 = wr := ⟨_, rfl⟩
      have e_W3_W5 : Ext W3 W5 := by rw [hW5]; exact e_W3_wr
      have HB5 := Aside0.mk (show RuB W5 g ns os by rw [hW5]; exact hB)
      have HM5 := Aside0.mk hm
      have e_W5_wr : Ext W5 wr := by rw [hW5]; exact Ext.refl _
      have HB6 := Aside0.mk hB
      clear hW5 hB hm e_W3_W4
      go_wp2
      go_loopw [49] (fun i wq => ∃ (q : Nat), q ≤ ol.length ∧ i = .int .i64 q ∧ Aside0 (∃ os', RuB wq g ns os' ∧ ∀ j (h : j < ol.length), j < q → nxF os' ol[j] = j) ∧ Ext W3 wq) (fun i _ => ol.length - (intOf i).toNat)
      case atStart => exact ⟨0, by omega, rfl, ⟨_, HB6.out, fun j _ h => by omega⟩, e_W3_W5.trans e_W5_wr⟩
      case round =>
        obtain ⟨q, hq, rfl, hR, e_W3_wq⟩ := hrel
        obtain ⟨os', hB, hm⟩ := hR.out
        clear hR HB6
        by_cases hlt : q < ol.length
        case pos =>
          obtain ⟨ad5, he_, a0⟩ := at_int (((e_w1_w2.trans e_w2_W3).trans e_W3_wq).C HO1.out) q (by rw [castL_ln]; exact hlt)
          subst he_
          rw [castL_ix ol q hlt] at a0
          have hx16 : ol[q] < 16 := Nat.lt_of_lt_of_le (HSM.out _ (List.getElem_mem hlt)) hn16
          have HM6 := Aside0.mk (show ∀ j (h : j < ol.length), j < q + 1 → nxF (os'.set ol[q] (q : Int)) ol[j] = j by
            intro j h hj
            rw [nxF_set (by rw [hB.lo]; exact hx16)]
            by_cases e : j = q
            · subst e; rw [if_pos rfl]
            · rw [if_neg (fun e2 => e (nodup_ix HND.out _ _ e2))]
              exact hm j h (by omega))
          have k2 := hB.ord hx16
          have f2 := hB.frozen (16 + ol[q])
          have HB7 := Aside0.mk (hB.setO hx16 (q : Int))
          clear hB hm
          generalize ol[q] = x at *
          have q0 : (0 : Int) ≤ (x : Int) := by omega
          have q1 : (x : Int) < 16 := by omega
          go_wp2
          go_roundw
          case rel => exact ⟨q + 1, by omega, by go_num, ⟨_, HB7.out, HM6.out⟩, Ext.set e_W3_wq HGR.out _⟩
          case measure => simp [intOf]; omega
        case neg =>
          obtain rfl : q = ol.length := by omega
          have hOS := Aside0.mk (show OrdS (toF p k) (odB (toF p k) (nF p k)) os' from fun x hx => by
            obtain ⟨j, hj, rfl⟩ := List.getElem_of_mem ((HMEM.out x).2 hx)
            refine ⟨Nat.lt_of_lt_of_le (HSM.out _ (List.getElem_mem hj)) hn16, ?_⟩
            rw [hm j hj hj, HOA.out j hj])
          have k0 := hB.next (b := 0) (by omega)
          have f0 := hB.frozen 0
          have HB7 := Aside0.mk (hB.setN (b := 0) (by omega) 0)
          have HD7 := Aside0.mk (show Doms (toF p k) (odB (toF p k) (nF p k)) (nxF (ns.set 0 0)) from Doms.first (by rw [nxF_set (by rw [hB.ln]; omega)]; rfl) (fun b hb => by
            rw [nxF_set (by rw [hB.ln]; omega), if_neg hb]
            by_cases h : b < 16
            · exact (HM5.out b h).1
            · exact nxF_out (by rw [hB.ln]; omega)) HNU.out.zero)
          have e_W3_w8 := Ext.set e_W3_wq (p := ⟨g, 0, none⟩) HGR.out (.int .i64 0)
          clear hB hm HB5 HM5
          go_wp2_with fail
          go_step3
          go_wp2_with fail
          clear k0 f0
          go_loopg [] (wt (odB (toF p k) (nF p k)) (nxF (ns.set 0 0))) (fun gk wr => Aside0 (∃ ns, RuB wr g ns os' ∧ Doms (toF p k) (odB (toF p k) (nF p k)) (nxF ns) ∧ wt (odB (toF p k) (nF p k)) (nxF ns) ≤ gk) ∧ Ext W3 wr)
          case atStart => exact ⟨⟨_, HB7.out, HD7.out, Nat.le_refl _⟩, e_W3_w8⟩
          case round =>
            obtain ⟨hR, e_W3_wr⟩ := hrel
            obtain ⟨ns0, hB0, hD0, hwt⟩ := hR.out
            have hrg := hB0.rangeN
            have hln0 := hB0.ln
            have hz := heap_new wr (.cells #[.int .i64 0, .int .i64 0, .int .i64 0, .int .i64 0, .int .i64 0, .int .i64 0, .int .i64 0, .int .i64 0, .int .i64 0, .int .i64 0, .int .i64 0, .int .i64 0, .int .i64 0, .int .i64 0, .int .i64 0, .int .i64 0] 98)
            have HTH := Aside0.mk (show (wr.alloc (.cells #[.int .i64 0, .int .i64 0, .int .i64 0, .int .i64 0, .int .i64 0, .int .i64 0, .int .i64 0, .int .i64 0, .int .i64 0, .int .i64 0, .int .i64 0, .int .i64 0, .int .i64 0, .int .i64 0, .int .i64 0, .int .i64 0] 98)).there wr.heap.size 0 (nums .i64 ns0).length from fun j hj => by
              rw [nums_length, hln0] at hj
              rw [Nat.zero_add, blk_cell hz j]
              exact ⟨by rw [Array.getElem?_eq_getElem (by simp; omega)]; rfl, blk_frozen hz j⟩)
            have HF9 := Aside0.mk (setCells_full (us := nums .i64 ns0) hz (by rw [nums_length, hln0]; rfl))
            have HG9 := Aside0.mk (setCells_ext (w := wr) (g := wr.heap.size) (Ext.alloc (Ext.refl wr) (.cells #[.int .i64 0, .int .i64 0, .int .i64 0, .int .i64 0, .int .i64 0, .int .i64 0, .int .i64 0, .int .i64 0, .int .i64 0, .int .i64 0, .int .i64 0, .int .i64 0, .int .i64 0, .int .i64 0, .int .i64 0, .int .i64 0] 98)) (Nat.le_refl _) (nums .i64 ns0) 0)
            have HLI := Aside0.mk (show (Tryd.prog.info? 98).map (·.size) = some (nums .i64 ns0).length by rw [nums_length, hln0]; kernel_rfl)
            have HRG := Aside0.mk hrg
            have HB0 := Aside0.mk hB0
            have HD0 := Aside0.mk hD0
            have HWT := Aside0.mk hwt
            have HO1 := Aside0.mk (show ∀ v ∈ nums .i64 ns0, v.oneCell' = true from fun v hv => by obtain ⟨x, _, rfl⟩ := List.mem_map.1 hv; rfl)
            clear hR hB0 hD0 hwt hrg hz hln0
            go_upto_region 16 with (first | (refine wpList_load_mid rfl 98 _ rfl g 0 rfl (nums .i64 ns0) _ HRG.out Tryd.underlying98 rfl HLI.out ?_) | (refine wpList_store_mid rfl 98 _ _ rfl wr.heap.size 0 (nums .i64 ns0).toArray rfl rfl (by simpa using HTH.out) (by simpa using HLI.out) (all_oneCell_toArray HO1.out) ?_))
            obtain ⟨B9, hB9⟩ : ∃ B9, B9 = wr.heap.size := ⟨_, rfl⟩
            rw [← hB9] at HF9 HG9 ⊢
            obtain ⟨W9, hW9⟩ : ∃ W9, W9 = (wr.alloc (.cells #[.int .i64 0, .int .i64 0, .int .i64 0, .int .i64 0, .int .i64 0, .int .i64 0, .int .i64 0, .int .i64 0, .int .i64 0, .int .i64 0, .int .i64 0, .int .i64 0, .int .i64 0, .int .i64 0, .int .i64 0, .int .i64 0] 98)).setCells B9 0 (nums .i64 ns0) := ⟨_, rfl⟩
            rw [← hW9] at HF9 HG9 ⊢
            have e_wr_W9 := HG9.out
            have e_W3_W9 := e_W3_wr.trans e_wr_W9
            have HB9 := Aside0.mk (HB0.out.ext e_wr_W9)
            have HG9B := Aside0.mk (show W3.heap.size ≤ B9 ∧ g ≠ B9 from ⟨by rw [hB9]; exact e_W3_wr.size, fun e => by have := blk_lt HB0.out.blk; omega⟩)
            have holp : 1 ≤ ol.length := by
              obtain ⟨l, hl⟩ := HZL.out
              rw [hl]; simp
            obtain ⟨A', hrun, hcut⟩ := cut1 oA ol.length oc holp
            have HCUT := Aside0.mk (hcut w1 (castL ol) (castL_ln ol) hol HO1x.out)
            clear hW9 hB9 HTH HLI HO1 HRG hcut HG9
            go_wp2
            go_loopw [72] (fun i wq => ∃ (j : Nat), j + 1 ≤ ol.length ∧ i = .int .i64 j ∧ Aside0 (∃ ns', RuB wq g ns' os' ∧ InR (toF p k) (odB (toF p k) (nF p k)) (nxF ns0) (nxF ns') (((j : Nat) : Int) + 1)) ∧ Aside0 (wq.heap[B9]? = some (.cells (nums .i64 ns0).toArray 98 (0, 0))) ∧ Ext W3 wq) (fun i _ => ol.length - (intOf i).toNat)
            case atStart => exact ⟨0, by omega, rfl, ⟨_, HB9.out, InR.start HNU.out HD0.out⟩, HF9, e_W3_W9⟩
            case round =>
              obtain ⟨j, hj, rfl, hR, HBB, e_W3_wq⟩ := hrel
              obtain ⟨ns', hB, hI⟩ := hR.out
              clear hR
              by_cases hlt : j + 1 < ol.length
              case pos =>
                have hC' := (e_w1_w2.trans (e_w2_W3.trans e_W3_wq)).C HCUT.out
                obtain ⟨ad5, he_, a0⟩ := at_int hC' j (by rw [List.length_drop, castL_ln]; omega)
                subst he_
                have hix : ((castL ol).drop 1)[j]'(by rw [List.length_drop, castL_ln]; omega) = (ol[j + 1] : Int) := by
                  rw [List.getElem_drop]
                  have := castL_ix ol (j + 1) hlt
                  simpa [Nat.add_comm] using this
                rw [hix] at a0
                have HOX := Aside0.mk (HOA.out (j + 1) hlt)
                have hxn := HSM.out _ (List.getElem_mem hlt)
                have HRC := Aside0.mk ((HMEM.out _).1 (List.getElem_mem hlt))
                have HX0 := Aside0.mk (show ol[j + 1] ≠ 0 from fun e => by
                  obtain ⟨l, hl⟩ := HZL.out
                  have h00 : ol[0] = 0 := by simp [hl]
                  have := nodup_ix HND.out hlt (by omega) (e.trans h00.symm)
                  omega)
                clear hix hC'
                generalize ol[j + 1] = x at *
                have hx16 : x < 16 := Nat.lt_of_lt_of_le hxn hn16
                have hxv : x < vs.length := by rw [HVL.out]; exact hx16
                have av : ∀ V, Ext W3 V → V.cell? ⟨g7, x, none⟩ = some vs[x] := stays (by rw [blk_cell HF.out x]; simp [hxv])
                have hov := (HVS.out x vs[x] (List.getElem?_eq_getElem hxv))
                rw [prL_pd HE.out x] at hov
                obtain ⟨pA, pc, hps, hpl, hpC⟩ := hov.reads
                rw [castL_ln] at hps
                rw [hps] at av
                have HPC := Aside0.mk hpC
                have hpdl := pdN_len (fnP p k).blocks x
                have HPD := Aside0.mk (fun a : Nat => mem_pdN (bs := (fnP p k).blocks) (b := x) (a := a))
                clear hov hps hpC hpl
                generalize pdN (fnP p k).blocks x = lp at *
                have x0 : (0 : Int) ≤ (x : Int) := by omega
                have x1 : (x : Int) < 16 := by omega
                obtain ⟨Wq, hWq⟩ : ∃ Wq, Wq = wr := ⟨_, rfl⟩
                have HBq := Aside0.mk (show RuB Wq g ns' os' by rw [hWq]; exact hB)
                have HBBq := Aside0.mk (show Wq.heap[B9]? = some (.cells (nums .i64 ns0).toArray 98 (0, 0)) by rw [hWq]; exact HBB.out)
                have e_W3_Wq : Ext W3 Wq := by rw [hWq]; exact e_W3_wq
                have e_Wq_wr : Ext Wq wr := by rw [hWq]; exact Ext.refl _
                have HIq := Aside0.mk hI
                clear hB hI hWq HBB e_W3_wq
                have e_W3_wr2 : Ext W3 wr := e_W3_Wq.trans e_Wq_wr
                have hlt2 : decide (j < ol.length - 1) = true := by rw [decide_eq_true_eq]; omega
                go_wp2
                go_loopg [15, 80] lp.length (fun gk v i wz => ∃ (q : Nat) (best : Int), q ≤ lp.length ∧ gk = lp.length - q ∧ i = .int .i64 q ∧ v = .int .i64 best ∧ Aside0 (Best (nxF ns') (lp.take q) best) ∧ Ext Wq wz)
                case atStart => exact ⟨0, -1, by omega, by omega, rfl, rfl, ⟨Best.nil _⟩, e_Wq_wr⟩
                case round =>
                  obtain ⟨q, best, hq, hgk, rfl, rfl, HBE, e_Wq_wz⟩ := hrel
                  have HGK := Aside0.mk hgk
                  clear hgk
                  have e_W3_wz := e_W3_Wq.trans e_Wq_wz
                  by_cases hql : q < lp.length
                  case pos =>
                    obtain ⟨ad6, he_, a6⟩ := at_int ((e_w2_W3.trans e_W3_wz).C HPC.out) q (by rw [castL_ln]; exact hql)
                    subst he_
                    rw [castL_ix lp q hql] at a6
                    have hap := (HPD.out _).1 (List.getElem_mem hql)
                    have HTK := Aside0.mk (take_snoc lp q hql)
                    have ha16 : lp[q] < 16 := Nat.lt_of_lt_of_le hap.1 hn16
                    clear hap
                    generalize lp[q] = a at *
                    have k6 := (HBq.out.ext e_Wq_wz).next ha16
                    have a60 : (0 : Int) ≤ (a : Int) := by omega
                    have a61 : (a : Int) < 16 := by omega
                    by_cases hna : nxF ns' a = -1
                    case pos =>
                      have HBE2 := Aside0.mk (show Best (nxF ns') (lp.take (q + 1)) best by rw [HTK.out]; exact HBE.out.skip hna)
                      rw [hna] at k6
                      clear hna
                      go_wp2
                      go_roundg (lp.length - (q + 1))
                      case rel => exact ⟨q + 1, best, by omega, rfl, by go_num, rfl, HBE2, (by repeat (first | assumption | exact Ext.refl _ | exact Ext.of_xt _ _ | apply Ext.alloc | apply Ext.drewN | apply Ext.drew))⟩
                      case measure => have := HGK.out; omega
                    case neg =>
                      have hq1 : (nxF ns' a == -1) = false := by simpa using hna
                      have HNA := Aside0.mk hna
                      clear hna
                      by_cases hbe : best = -1
                      case pos =>
                        subst hbe
                        have HBE2 := Aside0.mk (show Best (nxF ns') (lp.take (q + 1)) (a : Int) by rw [HTK.out]; exact HBE.out.first HNA.out)
                        go_wp2
                        go_roundg (lp.length - (q + 1))
                        case rel => exact ⟨q + 1, a, by omega, rfl, by go_num, rfl, HBE2, (by repeat (first | assumption | exact Ext.refl _ | exact Ext.of_xt _ _ | apply Ext.alloc | apply Ext.drewN | apply Ext.drew))⟩
                        case measure => have := HGK.out; omega
                      case neg =>
                        obtain ⟨m, rfl⟩ : ∃ m : Nat, best = (m : Int) := by
                          rcases HBE.out with ⟨h, _⟩ | ⟨m, h, _⟩
                          · exact absurd h hbe
                          · exact ⟨m, h⟩
                        have hq2 : ((m : Int) == -1) = false := by first | (simp; done) | (simp; omega)
                        have HMK := Aside0.mk HBE.out.known
                        clear hbe
                        go_wp2_with fail
                        refine (meet_c HNU.out g ns' os' m a _ (HBq.out.ext e_Wq_wz) HIq.out.doms hOS.out HMK.out HNA.out).mono ?_
                        rintro _ w6 ⟨m', rfl, hm2, hx_⟩
                        have HBE2 := Aside0.mk (show Best (nxF ns') (lp.take (q + 1)) (m' : Int) by rw [HTK.out]; exact HBE.out.more HNA.out hm2)
                        have e_Wq_w6 := e_Wq_wz.trans hx_
                        clear hm2 hx_
                        go_wp2
                        go_roundg (lp.length - (q + 1))
                        case rel => exact ⟨q + 1, m', by omega, rfl, by go_num, rfl, HBE2, (by repeat (first | assumption | exact Ext.refl _ | exact Ext.of_xt _ _ | apply Ext.alloc | apply Ext.drewN | apply Ext.drew))⟩
                        case measure => have := HGK.out; omega
                  case neg =>
                    obtain rfl : q = lp.length := by omega
                    have hbe : Best (nxF ns') lp best := by have := HBE.out; rwa [List.take_length] at this
                    obtain ⟨p0, hp0, hp0x, hp0l⟩ := HNU.out.fwd x HRC.out HX0.out
                    have hox : odB (toF p k) (nF p k) x = (j : Int) + 1 := by rw [HOX.out]; omega
                    have hkn := HIq.out.upto.all p0 hp0 (by omega)
                    have hp0n : p0 < nF p k := hp0.lt HI.out hn0
                    obtain ⟨m, hm1, hm2⟩ : ∃ m : Nat, best = (m : Int) ∧ MeetL (nxF ns') lp m := by
                      rcases hbe with ⟨_, h⟩ | h
                      · exact absurd (h p0 ((HPD.out p0).2 ⟨hp0n, hp0x⟩)) hkn
                      · exact h
                    subst hm1
                    have hme := hm2.meet (b := x) (fun p1 h1 h2 => (HPD.out p1).2 ⟨((HIq.out.doms.good p1 h2).1).lt HI.out hn0, h1⟩) (fun p1 h1 => ((HPD.out p1).1 h1).2)
                    have hin := InR.turn HNU.out (by rw [hox]; exact HIq.out) HRC.out HX0.out hm2.1 hme (by omega) (by omega)
                    rw [← nxF_turned (by rw [HBq.out.ln]; exact hx16), hox] at hin
                    have HIN := Aside0.mk hin
                    have hBz := HBq.out.ext e_Wq_wz
                    have kx := hBz.next hx16
                    have fx := hBz.frozen x
                    have HBS := Aside0.mk (hBz.setN hx16 (m : Int))
                    have HBF := Aside0.mk (blk_far (e_Wq_wz.blk HBBq.out) (p := ⟨g, x, none⟩) (fun e => HG9B.out.2 e.symm) (.int .i64 (m : Int)))
                    have e_W3_ws := Ext.set e_W3_wz (p := ⟨g, x, none⟩) HGR.out (.int .i64 (m : Int))
                    clear hbe hp0 hp0x hp0l hox hkn hp0n hm2 hme hin hBz HBE
                    go_wp2
                    go_roundw
                    case rel => exact ⟨j + 1, by omega, by go_num, ⟨_, HBS.out, by have := HIN.out; simpa using this⟩, HBF, e_W3_ws⟩
                    case measure => simp [intOf]; omega
              case neg =>
                have hjl : ol.length = j + 1 := by omega
                have hlt2 : decide (j < ol.length - 1) = false := by rw [decide_eq_false_iff_not]; omega
                have HR0 := Aside0.mk (rangeAt_row HBB.out)
                have HR1 := Aside0.mk hB.rangeN
                have hea : ∀ V, (Op.equalIn 10000 98 (.agg (nums .i64 ns0).toArray) (.agg (nums .i64 ns').toArray)).run Tryd.prog V = .ok (decide (ns0 = ns')) V := run_eq16 ns0 ns' HB0.out.ln hB.ln
                have hgd : Tryd.prog.eqGuardType Tryd.prog.depth 98 = false := by kernel_rfl
                have HBx := Aside0.mk hB
                have HIx := Aside0.mk hI
                have HJL := Aside0.mk hjl
                have hl0 : (nums .i64 ns0).length = 16 := by rw [nums_length]; exact HB0.out.ln
                have hl1 : (nums .i64 ns').length = 16 := by rw [nums_length]; exact hB.ln
                have HL0 := Aside0.mk hl0
                have HL1 := Aside0.mk hl1
                clear hB hI hjl hl0 hl1
                go_upto_region 30 with (fail)
                have hu := Tryd.underlying98
                have hi0 : (Tryd.prog.info? 98).map (·.size) = some (nums .i64 ns0).length := by rw [HL0.out]; kernel_rfl
                have hi1 : (Tryd.prog.info? 98).map (·.size) = some (nums .i64 ns').length := by rw [HL1.out]; kernel_rfl
                have hr0 : wr.rangeAt B9 0 (nums .i64 ns0) := HR0.out
                have hr1 : wr.rangeAt g 0 (nums .i64 ns') := HR1.out
                refine wp_region_held (S := fun V => V.rangeAt B9 0 (nums .i64 ns0) ∧ V.rangeAt g 0 (nums .i64 ns')) (by kernel_rfl) ?_
                refine wpAnyH_take (i := 0) (oi := { dst := some 108, op := .load 98 (.tmp 12), type := 98, pos := "dom.go:75", after := #[], guard := none }) (v := .agg (nums .i64 ns0).toArray) rfl (by kernel_rfl) (by kernel_rfl) (by kernel_rfl) (fun _ _ _ h => h) (yieldsIf_load_mid (by rfl) _ _ rfl _ _ rfl (nums .i64 ns0) _ (fun V hV => hV.1) hu rfl hi0) ⟨hr0, hr1⟩ ?_
                simp only [Act.put, List.setIfInBounds_toArray, List.set_cons_zero, List.set_cons_succ]
                refine wpAnyH_take (i := 1) (oi := { dst := some 109, op := .move (.tmp 8), type := 95, pos := "dom.go:75", after := #[], guard := none }) (v := .pointer (some ⟨g, 0, none⟩)) rfl (by kernel_rfl) (by kernel_rfl) (by kernel_rfl) (fun _ _ _ h => h) (Or.inl ⟨by rfl, fun V hV => by go_simp; first | done | with_reducible rfl⟩) ⟨hr0, hr1⟩ ?_
                simp only [Act.put, List.setIfInBounds_toArray, List.set_cons_zero, List.set_cons_succ]
                refine wpAnyH_take (i := 2) (oi := { dst := some 110, op := .nilCheck (.tmp 109), type := 0, pos := "dom.go:75", after := #[{ on := 1, ground := .data }], guard := none }) (v := .pointer (some ⟨g, 0, none⟩)) rfl (by kernel_rfl) (by kernel_rfl) (by kernel_rfl) (fun _ _ _ h => h) (Or.inl ⟨by rfl, fun V hV => by go_simp; first | done | with_reducible rfl⟩) ⟨hr0, hr1⟩ ?_
                simp only [Act.put, List.setIfInBounds_toArray, List.set_cons_zero, List.set_cons_succ]
                refine wpAnyH_take (i := 3) (oi := { dst := some 111, op := .fieldAddr 100 (.tmp 110) 0, type := 0, pos := "dom.go:75", after := #[{ on := 2, ground := .data }], guard := none }) (v := .pointer (some ⟨g, 0, none⟩)) rfl (by kernel_rfl) (by kernel_rfl) (by kernel_rfl) (fun _ _ _ h => h) (Or.inl ⟨by rfl, fun V hV => by go_simp; first | done | with_reducible rfl⟩) ⟨hr0, hr1⟩ ?_
                simp only [Act.put, List.setIfInBounds_toArray, List.set_cons_zero, List.set_cons_succ]
                refine wpAnyH_take (i := 4) (oi := { dst := some 112, op := .load 98 (.tmp 111), type := 98, pos := "dom.go:75", after := #[{ on := 3, ground := .data }], guard := none }) (v := .agg (nums .i64 ns').toArray) rfl (by kernel_rfl) (by kernel_rfl) (by kernel_rfl) (fun _ _ _ h => h) (yieldsIf_load_mid (by rfl) _ _ rfl _ _ rfl (nums .i64 ns') _ (fun V hV => hV.2) hu rfl hi1) ⟨hr0, hr1⟩ ?_
                simp only [Act.put, List.setIfInBounds_toArray, List.set_cons_zero, List.set_cons_succ]
                refine wpAnyH_take (i := 5) (oi := { dst := some 113, op := .binOp .eql 98 (.tmp 108) (.tmp 112) 98, type := 4, pos := "dom.go:75", after := #[{ on := 0, ground := .data }, { on := 4, ground := .data }], guard := none }) (v := .bool (decide (ns0 = ns'))) rfl (by kernel_rfl) (by kernel_rfl) (by kernel_rfl) (fun _ _ _ h => h) (Or.inl ⟨by rfl, fun V hV => by go_simp; first | done | with_reducible rfl⟩) ⟨hr0, hr1⟩ ?_
                simp only [Act.put, List.setIfInBounds_toArray, List.set_cons_zero, List.set_cons_succ]
                refine wpAnyH_done (by kernel_rfl) ?_ _
                have HBd := Aside0.mk (show RuB wr.drew g ns' os' from HBx.out.ext (Ext.drew (Ext.refl _)))
                have e_w_wd : Ext w wr.drew := Ext.drew (e_w_W3.trans e_W3_wq)
                have e_W3_wd : Ext W3 wr.drew := Ext.drew e_W3_wq
                clear hu hi0 hi1 hr0 hr1 hea hgd HR0 HR1 HL0 HL1
                change Exit.then _ _ _ _ wr.drew
                generalize wr.drew = wd at *
                by_cases heq : ns0 = ns'
                case pos =>
                  have hde : decide (ns0 = ns') = true := decide_eq_true heq
                  rw [hde]
                  have HRS := Aside0.mk (show Rests (toF p k) (odB (toF p k) (nF p k)) (nxF ns') from InR.rests HNU.out (j := ((j : Int) + 1)) (by have := HIx.out; rw [heq] at this; exact this) (fun b hb => by
                    obtain ⟨q, hq, rfl⟩ := List.getElem_of_mem ((HMEM.out b).2 hb)
                    rw [HOA.out q hq]
                    have := HJL.out
                    omega))
                  clear heq hde
                  go_wp2
                  rw [Exit.noGoto_ret]
                  go_ret
                  exact ⟨g, ns', os', rfl, HBd.out, HRS.out, hOS.out, e_w_wd⟩
                case neg =>
                  have hde : decide (ns0 = ns') = false := decide_eq_false heq
                  rw [hde]
                  have HW2 := Aside0.mk (show wt (odB (toF p k) (nF p k)) (nxF ns') < gk by
                    rcases HIx.out.prog with ⟨h, _⟩ | h
                    · exfalso
                      apply heq
                      apply List.ext_getElem (by rw [HB0.out.ln, HBx.out.ln])
                      intro i h1 h2
                      have := congrFun h i
                      rw [nxF_at h1, nxF_at h2] at this
                      exact this.symm
                    · exact Nat.lt_of_lt_of_le h HWT.out)
                  have HD2 := Aside0.mk HIx.out.doms
                  clear heq hde
                  go_wp2
                  go_roundg (wt (odB (toF p k) (nF p k)) (nxF ns'))
                  case rel => exact ⟨⟨ns', HBd.out, HD2.out, Nat.le_refl _⟩, e_W3_wd⟩
                  case measure => exact HW2.out
end Go.Proofs.YtjbnabjjbofhjaaDoor.Fes
