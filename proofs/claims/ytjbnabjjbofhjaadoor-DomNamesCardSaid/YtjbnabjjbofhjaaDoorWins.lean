/- shape.ins, by what an operation has. -/
import Derived.Test.YtjbnabjjbofhjaaDoorWinsA
import Derived.Test.YtjbnabjjbofhjaaDoorWinsB
set_option linter.unusedVariables false
set_option linter.unusedSimpArgs false
namespace Go.Proofs.YtjbnabjjbofhjaaDoor.Fes
open Go.RowKit Go.Proofs.YtjbnabjjbofhjaaDoorW.PrintWords
attribute [local go_sem high] eqA_End eqA_has

theorem hasOf_cases (op : Int) : hasOf op = ⟨false, false, false, false, false, false⟩ ∨ hasOf op = ⟨false, false, true, false, false, true⟩ ∨ hasOf op = ⟨false, false, false, false, false, true⟩ ∨ hasOf op = ⟨true, true, false, false, false, true⟩ ∨ hasOf op = ⟨true, false, false, false, false, false⟩ ∨ hasOf op = ⟨true, false, true, false, false, true⟩ ∨ hasOf op = ⟨true, false, false, false, false, true⟩ ∨ hasOf op = ⟨true, true, false, false, false, false⟩ ∨ hasOf op = ⟨false, false, true, true, false, true⟩ ∨ hasOf op = ⟨true, false, false, true, false, true⟩ ∨ hasOf op = ⟨false, false, false, true, true, true⟩ := by
  unfold hasOf
  rcases Nat.lt_or_ge op.toNat 23 with hk | hk
  · have hall : ∀ k, k < 23 → hasL.getD k noHas = ⟨false, false, false, false, false, false⟩ ∨ hasL.getD k noHas = ⟨false, false, true, false, false, true⟩ ∨ hasL.getD k noHas = ⟨false, false, false, false, false, true⟩ ∨ hasL.getD k noHas = ⟨true, true, false, false, false, true⟩ ∨ hasL.getD k noHas = ⟨true, false, false, false, false, false⟩ ∨ hasL.getD k noHas = ⟨true, false, true, false, false, true⟩ ∨ hasL.getD k noHas = ⟨true, false, false, false, false, true⟩ ∨ hasL.getD k noHas = ⟨true, true, false, false, false, false⟩ ∨ hasL.getD k noHas = ⟨false, false, true, true, false, true⟩ ∨ hasL.getD k noHas = ⟨true, false, false, true, false, true⟩ ∨ hasL.getD k noHas = ⟨false, false, false, true, true, true⟩ := by
      intro k hk
      have h23 : k ∈ List.range 23 := List.mem_range.2 hk
      simp only [List.range, List.range.loop, List.mem_cons, List.not_mem_nil, or_false] at h23
      rcases h23 with rfl | rfl | rfl | rfl | rfl | rfl | rfl | rfl | rfl | rfl | rfl | rfl | rfl | rfl | rfl | rfl | rfl | rfl | rfl | rfl | rfl | rfl | rfl <;> simp [hasL, noHas]
    exact hall _ hk
  · left
    rw [List.getD_eq_getElem?_getD, List.getElem?_eq_none (by simp [hasL]; omega)]; rfl

set_option maxRecDepth 100000 in
set_option maxHeartbeats 4000000 in
theorem ins_p0 (x : Ins) (A5 : Option Addr) (c5 : Nat) (A6 : Option Addr) (c6 : Nat) (t f r b : Int) (w : World) (hh : hasOf x.op = noHas) (h0 : 0 ≤ x.op) (h1 : x.op ≤ 255) (hT : Tab w)
    (hA : Kd.C (Kd.int .i64) w A5 x.args.length x.args) (hF : Kd.C (Kd.int .i64) w A6 x.froms.length x.froms) :
    Calls Tryd.prog 142 #[vIns x A5 c5 A6 c6, vSz t f r b] w fun e w' => e = .returned (.bool false) ∧ Ext w w' := by
  have HT := Aside0.mk hT
  have HH := Aside0.mk hh
  clear hA hF hT hh
  unfold vIns vSz
  go_enter Tryd.func142, Tryd.ntmps142
  go_wp2_with fail
  refine (hasOf_c x.op h0 h1 _ (HT.out.ext (by repeat (first | assumption | exact Ext.refl _ | exact Ext.of_xt _ _ | apply Ext.alloc | apply Ext.drewN | apply Ext.drew)))).mono ?_
  (rintro _ w1 ⟨rfl, hx_⟩; have e_w_w1 : Ext w w1 := Ext.trans (by repeat (first | assumption | exact Ext.refl _ | exact Ext.of_xt _ _ | apply Ext.alloc | apply Ext.drewN | apply Ext.drew)) hx_; have b_w1_0_0 := stays (hx_.cell (a := ⟨w.heap.size, 0, none⟩) (by first | (go_simp; rfl) | rfl)); have b_w1_0_1 := stays (hx_.cell (a := ⟨w.heap.size, 1, none⟩) (by first | (go_simp; rfl) | rfl)); have b_w1_0_2 := stays (hx_.cell (a := ⟨w.heap.size, 2, none⟩) (by first | (go_simp; rfl) | rfl)); have b_w1_0_3 := stays (hx_.cell (a := ⟨w.heap.size, 3, none⟩) (by first | (go_simp; rfl) | rfl)); have b_w1_0_4 := stays (hx_.cell (a := ⟨w.heap.size, 4, none⟩) (by first | (go_simp; rfl) | rfl)); have b_w1_0_5 := stays (hx_.cell (a := ⟨w.heap.size, 5, none⟩) (by first | (go_simp; rfl) | rfl)); have b_w1_0_6 := stays (hx_.cell (a := ⟨w.heap.size, 6, none⟩) (by first | (go_simp; rfl) | rfl)); have b_w1_1_0 := stays (hx_.cell (a := ⟨w.heap.size + 1, 0, none⟩) (by first | (go_simp; rfl) | rfl)); have b_w1_1_1 := stays (hx_.cell (a := ⟨w.heap.size + 1, 1, none⟩) (by first | (go_simp; rfl) | rfl)); have b_w1_1_2 := stays (hx_.cell (a := ⟨w.heap.size + 1, 2, none⟩) (by first | (go_simp; rfl) | rfl)); have b_w1_1_3 := stays (hx_.cell (a := ⟨w.heap.size + 1, 3, none⟩) (by first | (go_simp; rfl) | rfl)); clear hx_)
  rw [HH.out]
  unfold hasCells noHas
  dsimp only
  go_wp2
  go_ret
  exact ⟨rfl, (by repeat (first | assumption | exact Ext.refl _ | exact Ext.of_xt _ _ | apply Ext.alloc | apply Ext.drewN | apply Ext.drew))⟩

theorem hasOf_none (op : Int) (h0 : 0 ≤ op) : hasOf op = noHas ↔ (op < 1 ∨ 22 < op) := by
  obtain ⟨k, rfl⟩ := Int.eq_ofNat_of_zero_le h0
  constructor
  · intro h
    rcases Nat.lt_or_ge k 23 with hk | hk
    · have h23 : k ∈ List.range 23 := List.mem_range.2 hk
      simp only [List.range, List.range.loop, List.mem_cons, List.not_mem_nil, or_false] at h23
      rcases h23 with rfl | rfl | rfl | rfl | rfl | rfl | rfl | rfl | rfl | rfl | rfl | rfl | rfl | rfl | rfl | rfl | rfl | rfl | rfl | rfl | rfl | rfl | rfl <;> first | (left; decide) | (exfalso; simp [hasOf, hasL, noHas] at h)
    · right; omega
  · rintro (h | h)
    · obtain rfl : k = 0 := by omega
      rfl
    · unfold hasOf
      rw [List.getD_eq_getElem?_getD, List.getElem?_eq_none (by simp [hasL]; omega)]; rfl

theorem insB_c (x : Ins) (A5 : Option Addr) (c5 : Nat) (A6 : Option Addr) (c6 : Nat) (t f r b : Int) (w : World) (h0 : 0 ≤ x.op) (h1 : x.op ≤ 255) (hT : Tab w)
    (hA : Kd.C (Kd.int .i64) w A5 x.args.length x.args) (hF : Kd.C (Kd.int .i64) w A6 x.froms.length x.froms) :
    Calls Tryd.prog 142 #[vIns x A5 c5 A6 c6, vSz t f r b] w fun e w' => e = .returned (.bool (insB x t f r b)) ∧ Ext w w' := by
  by_cases hno : x.op < 1 ∨ 22 < x.op
  · unfold insB
    rw [if_pos hno]
    exact ins_p0 x A5 c5 A6 c6 t f r b w ((hasOf_none _ h0).2 hno) h0 h1 hT hA hF
  · unfold insB
    rw [if_neg hno]
    rcases hasOf_cases x.op with hh | hh | hh | hh | hh | hh | hh | hh | hh | hh | hh
    · exact absurd ((hasOf_none _ h0).1 hh) hno
    · rw [hh]; exact ins_p1 x A5 c5 A6 c6 t f r b w hh h0 h1 hT hA hF
    · rw [hh]; exact ins_p2 x A5 c5 A6 c6 t f r b w hh h0 h1 hT hA hF
    · rw [hh]; exact ins_p3 x A5 c5 A6 c6 t f r b w hh h0 h1 hT hA hF
    · rw [hh]; exact ins_p4 x A5 c5 A6 c6 t f r b w hh h0 h1 hT hA hF
    · rw [hh]; exact ins_p5 x A5 c5 A6 c6 t f r b w hh h0 h1 hT hA hF
    · rw [hh]; exact ins_p6 x A5 c5 A6 c6 t f r b w hh h0 h1 hT hA hF
    · rw [hh]; exact ins_p7 x A5 c5 A6 c6 t f r b w hh h0 h1 hT hA hF
    · rw [hh]; exact ins_p8 x A5 c5 A6 c6 t f r b w hh h0 h1 hT hA hF
    · rw [hh]; exact ins_p9 x A5 c5 A6 c6 t f r b w hh h0 h1 hT hA hF
    · rw [hh]; exact ins_p10 x A5 c5 A6 c6 t f r b w hh h0 h1 hT hA hF
end Go.Proofs.YtjbnabjjbofhjaaDoor.Fes
