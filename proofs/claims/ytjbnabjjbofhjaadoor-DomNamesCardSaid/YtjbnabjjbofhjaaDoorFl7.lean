/- Package flow: the library's AppendSeq and Collect over a slice's values. -/
import Derived.Test.YtjbnabjjbofhjaaDoorFl6
set_option linter.unusedVariables false
set_option linter.unusedSimpArgs false
namespace Go.Proofs.YtjbnabjjbofhjaaDoor.Fes
open Go.RowKit Go.Shelf Go.Proofs.YtjbnabjjbofhjaaDoorW.PrintWords
attribute [local go_sem] Oper.semAt_some

set_option maxRecDepth 100000 in
set_option maxHeartbeats 4000000 in
theorem appendSeq_c (Bs : Nat) (sv : Value) (zs : List Int) (hz : zs.length ≤ 20) (w : World) (hBs : Bs < w.heap.size) (hc : w.cell? ⟨Bs, 0, none⟩ = some sv) (hI : Ints w.heap.size w.heap.size w sv zs) :
    Calls Tryd.prog 103 #[.slice none 0 0, .func (.func 91) #[] #[.pointer (some ⟨Bs, 0, none⟩)]] w fun e w' => ∃ v, e = .returned v ∧ OwnI w w' v zs ∧ Ext w w' := by
  refine (callsIn_wide (n := 10)).1 ?_
  refine callsIn_of_wp_marks Tryd.func103 rfl trivial ?_ rfl
  simp only [Tryd.ntmps103, List.size_toArray, List.length_cons, List.length_nil, Nat.reduceAdd, Nat.reduceSub, Array.replicate_succ, Array.replicate_zero, List.push_toArray, List.append_toArray, List.nil_append, List.cons_append]
  gi_wp2_with fail
  have e_w_w4 : Ext w (w.alloc (.cells #[.slice none 0 0] 28)) := (by repeat (first | assumption | exact Ext.refl _ | exact Ext.of_xt _ _ | apply Ext.alloc | apply Ext.drewN | apply Ext.drew))
  have hbo : Boxed (w.alloc (.cells #[.slice none 0 0] 28)) w.heap.size 28 (.slice none 0 0) := Boxed.new _ _ _
  have hsz4 : (w.alloc (.cells #[.slice none 0 0] 28)).heap.size = w.heap.size + 1 := by simp
  have hcb := e_w_w4.cell hc
  have HI4 := Aside0.mk (hI.below e_w_w4.b)
  clear hc hI
  generalize w.alloc (.cells #[.slice none 0 0] 28) = w4 at *
  obtain ⟨i0, hi, hz0, hz1, hz2⟩ := info_parts infoInt
  refine wpIn_rangeFunc_ownG rfl (by decide) (gf := 91) (lb := #[.pointer (some ⟨Bs, 0, none⟩)]) rfl trivial (enters_of Tryd.func91 (by kernel_rfl) rfl)
    (values_stops Fence.wide 9 trivial rfl (by decide) Bs w.heap.size w.heap.size _ _ (by omega) w4 (by omega) (by omega) hcb HI4.out) Kb.trans (Kb.put (by omega)) (Below.refl _ _) (fun _ => rfl)
    (fun pre W => (∃ v, Boxed W w.heap.size 28 v ∧ W.ownsRow (w.heap.size) 3 1 v pre.length (pre.map (Value.int .i64)) ∧ True) ∧ Below w.heap.size w4 W)
    (fun _ _ _ => False)
    (OwnFrom.and (Own.from (holdsRow_own w.heap.size w.heap.size 28 3 1 (fun pre : List Int => pre.length) (fun pre => pre.map (Value.int .i64)) (fun _ _ => True)) _) (ownFrom_below (by omega) (by omega)))
    (fun _ _ _ _ _ hs _ _ => hs)
    ⟨⟨_, hbo, World.ownsRow_nil _ _ _ _, trivial⟩, Below.refl _ _⟩
    (fun x => { tmps := #[.slice none 0 0, .func (.func 91) #[] #[.pointer (some ⟨Bs, 0, none⟩)], .pointer (some ⟨w.heap.size, 0, none⟩), undef, .slice none 0 0, .int .i64 x, .func (.func 91) #[] #[.pointer (some ⟨Bs, 0, none⟩)], .int .i64 x, undef, undef, undef, undef, undef], defers := [] }) ?assign ?body ?done ?stop
  case assign =>
    intro l x W K hK
    gi_wp2
    exact hK
  case body =>
    rintro l pre x W ⟨⟨v, hv, hrow, _⟩, hB⟩ hlt
    have hc := hv.cell
    have hWs := hB.size
    gi_wp2_with (gi_at_builtin; refine wpListIn_append_own _ rfl _ _ 28 rfl w.heap.size 3 i0 (.int .i64 0) 1 8 Tryd.underlying28 hi hz0 hz1 hz2 rfl (by decide) _ _ _ rfl (hrow.alloc _) ⟨W.heap.size, 0, none⟩ 1 1 [.int .i64 x] rfl rfl (cell_one_new _ _ _) (by simp [Value.oneCell']) (by unfold maxLen; omega) (by omega) (by simp; omega) ?_; intro v' w1 hown' hgrow _; obtain ⟨g', cap', rfl⟩ := ownsRow_succ hown'; obtain ⟨hv1, hv2, hr2, hk2, hkb, hb2⟩ := Boxed.app2 hv (by decide) hrow (by omega) hown' hgrow; have hc1 := hv1.cell; have hf1 := hv1.frozen)
    exact ⟨hk2.from _, hkb, ⟨_, hv2, by simpa using hr2, trivial⟩, hB.trans (hb2 _ (by omega) (by omega))⟩
  case done =>
    rintro D ys W hD rfl ⟨⟨v, hv, hrow, _⟩, hB⟩ hK
    have hc := hv.cell
    have hWs := hB.size
    obtain ⟨Av, cv, rfl⟩ := own_slice hrow
    have HRW := Aside0.mk hrow
    have HB := Aside0.mk hB
    have HKD := Aside0.mk hK
    clear hrow hB hK
    generalize hN : ys.length = N at *
    have HN := Aside0.mk hN
    clear hN
    gi_wp2
    refine ⟨by simp, .inl ⟨_, _, rfl, run_takeDeferred HKD.out, ?_⟩⟩
    refine ⟨.slice Av N cv, by simp [results, Tryd.f103, go_sem], _, rfl, ?_, ?_⟩
    · refine Kd.R_of_own ?_ (fun _ _ => trivial)
      have hrw := ownsRow_putObj HRW.out (.deferred none) HKD.out rfl
      rw [← HN.out] at hrw ⊢
      simpa [encs, nums] using hrw
    · exact ⟨e_w_w4.b.trans (HB.out.trans (belowK_b (w := w4) e_w_w4.size _ D _ _ hD HKD.out rfl rfl))⟩
  case stop =>
    rintro D c pre W _ _ h _
    exact h.elim

set_option maxHeartbeats 1000000 in
theorem collect_c (Bs : Nat) (sv : Value) (zs : List Int) (hz : zs.length ≤ 20) (w : World) (hBs : Bs < w.heap.size) (hc : w.cell? ⟨Bs, 0, none⟩ = some sv) (hI : Ints w.heap.size w.heap.size w sv zs) :
    Calls Tryd.prog 89 #[.func (.func 91) #[] #[.pointer (some ⟨Bs, 0, none⟩)]] w fun e w' => ∃ v, e = .returned v ∧ OwnI w w' v zs ∧ Ext w w' := by
  have HC := Aside0.mk (appendSeq_c Bs sv zs hz w hBs hc hI)
  clear hc hI hBs
  go_enter Tryd.func89, Tryd.ntmps89
  go_wp2_with fail
  refine HC.out.mono ?_
  rintro _ w1 ⟨v, rfl, hv, hx⟩
  obtain ⟨A, N, c, rfl⟩ := hv.isSlice
  have HV := Aside0.mk hv
  have HX := Aside0.mk hx
  clear hv hx
  go_wp2
  go_ret
  exact ⟨_, rfl, HV.out, HX.out⟩
end Go.Proofs.YtjbnabjjbofhjaaDoor.Fes
