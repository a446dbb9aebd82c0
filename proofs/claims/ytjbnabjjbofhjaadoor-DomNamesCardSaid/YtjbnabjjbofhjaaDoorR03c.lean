/- The reference of layer 3 (types): how great a table is, copies, comparison. -/
import Derived.Test.YtjbnabjjbofhjaaDoorR03b
set_option linter.unusedVariables false
set_option linter.unusedSimpArgs false
namespace Go.Proofs.YtjbnabjjbofhjaaDoor.Fes
open Go.RowKit Go.Proofs.YtjbnabjjbofhjaaDoorW.PrintWords

def greatT (t : List Typ) : Bool := (t.take 30).any (fun x => decide (20 < x.parts.length)) || decide (20 < t.length)
theorem greatT_small {t : List Typ} (h : greatT t = false) : t.length ≤ 20 ∧ ∀ x ∈ t, x.parts.length ≤ 20 := by
  unfold greatT at h
  simp only [Bool.or_eq_false_iff, decide_eq_false_iff_not, Nat.not_lt] at h
  refine ⟨h.2, fun x hx => ?_⟩
  rw [List.take_of_length_le (by omega)] at h
  have h2 := List.any_eq_false.1 h.1 x hx
  simpa using h2
theorem any_take_snoc {α : Type} (p : α → Bool) (l : List α) (k : Nat) (h : k < l.length) : (l.take (k + 1)).any p = ((l.take k).any p || p l[k]) := by
  rw [take_snoc l k h, List.any_append]
  simp only [List.any_cons, List.any_nil, Bool.or_false]

set_option maxHeartbeats 1000000 in
theorem greatT_c (t : List Typ) (A : Option Addr) (c : Nat) (w : World) (hA : Kd.C kTyp w A t.length t) :
    Calls Tryd.prog 51 #[.slice A t.length c] w fun e w' => e = .returned (.bool (greatT t)) ∧ w = w' := by
  have HA := Aside0.mk hA
  have hlen : t.length ≤ 9223372036854775807 := hA.2.1
  clear hA
  go_enter Tryd.func51, Tryd.ntmps51
  go_wp2
  go_loop [3] (fun i => ∃ k : Nat, k ≤ t.length ∧ k ≤ 30 ∧ i = .int .i64 k ∧ Hid ((t.take k).any (fun x => decide (20 < x.parts.length)) = false)) (fun i => t.length - (intOf i).toNat)
  case atStart => exact ⟨0, by omega, by omega, rfl, rfl⟩
  case round =>
    obtain ⟨k, hk, hk30, rfl, hb⟩ := hrel
    by_cases hlt : k < t.length
    · by_cases h30 : k < 30
      · obtain ⟨ad, A3, c3, rfl, a0, a1, a2, a3, l3, g3⟩ := at_Typ HA.out k hlt
        have HS := Aside0.mk (any_take_snoc (fun x => decide (20 < x.parts.length)) t k hlt)
        by_cases h20 : 20 < (t[k]).parts.length
        · have HF : Hid (greatT t = true) := by
            unfold Hid greatT
            rw [Bool.or_eq_true]
            left
            rw [List.any_eq_true]
            exact ⟨t[k], List.mem_take_iff_getElem.2 ⟨k, by omega, rfl⟩, by simpa using h20⟩
          clear HS
          generalize t[k] = x at *
          clear g3
          go_wp2
          go_ret
          exact ⟨ret_bool HF.out.symm, rfl⟩
        · generalize t[k] = x at *
          clear g3
          go_wp2
          go_round
          case rel => exact ⟨k + 1, by omega, by omega, by go_num, by unfold Hid; rw [HS.out, hb.out]; simpa using h20⟩
          case measure => simp [intOf]; omega
      · obtain rfl : k = 30 := by omega
        have HF : Hid (greatT t = decide (20 < t.length)) := by
          unfold Hid greatT
          rw [hb.out, Bool.false_or]
        clear hb
        go_wp2
        go_ret
        refine ⟨ret_bool ?_, rfl⟩
        rw [HF.out]
        first | (simp; done) | (simp; omega)
    · obtain rfl : k = t.length := by omega
      have HF : Hid (greatT t = decide (20 < t.length)) := by
        unfold Hid greatT
        have := hb.out
        rw [List.take_length] at this
        rw [List.take_of_length_le (by omega), this, Bool.false_or]
      clear hb
      go_wp2
      go_ret
      refine ⟨ret_bool ?_, rfl⟩
      rw [HF.out]
      first | (simp; done) | (simp; omega)

theorem infoTyp : (Tryd.prog.info? 87).map (fun i => (i.zero, i.size, i.bytes)) = some (some (.agg #[.int .u8 0, .int .i64 0, .int .i64 0, .slice none 0 0]), 4, 48) := by kernel_rfl

set_option maxHeartbeats 1000000 in
theorem twinT_c (t : List Typ) (A : Option Addr) (c : Nat) (w : World) (hA : Kd.C kTyp w A t.length t) (h20 : t.length ≤ 20) (hp : ∀ x ∈ t, x.parts.length ≤ 20) :
    Calls Tryd.prog 52 #[.slice A t.length c] w fun e w' => ∃ v, e = .returned v ∧ OwnS kTyp 87 w w' v t ∧ Ext w w' := by
  have HA := Aside0.mk hA
  have HP := Aside0.mk hp
  clear hA hp
  go_enter Tryd.func52, Tryd.ntmps52
  go_wp2
  go_loopw [3, 4] (fun l i wr => ∃ (k : Nat) (v : Value), k ≤ t.length ∧ i = .int .i64 k ∧ v = l ∧ Aside0 (OwnS kTyp 87 w wr v (t.take k)) ∧ Ext w wr) (fun _ i _ => t.length - (intOf i).toNat)
  case atStart => exact ⟨0, _, by omega, rfl, rfl, ⟨OwnS.nil _ _ _ _⟩, Ext.refl _⟩
  case round =>
    obtain ⟨k, v, hk, rfl, rfl, HO, hxr⟩ := hrel
    by_cases hlt : k < t.length
    · obtain ⟨ad, A3, c3, rfl, a0, a1, a2, a3, l3, g3⟩ := at_Typ (hxr.C HA.out) k hlt
      have hp20 := HP.out _ (List.getElem_mem hlt)
      have HT := Aside0.mk (take_snoc t k hlt)
      generalize t[k] = x at *
      have G3 := Aside0.mk g3
      clear g3
      go_upto_region 6 with (fail)
      have hb0 := heap_new wr (.cells #[.int .u8 x.kind, .int .i64 x.elem, .int .i64 x.many, .slice A3 x.parts.length c3] 87)
      have e_w_W0 : Ext w (wr.alloc (.cells #[.int .u8 x.kind, .int .i64 x.elem, .int .i64 x.many, .slice A3 x.parts.length c3] 87)) := (by repeat (first | assumption | exact Ext.refl _ | exact Ext.of_xt _ _ | apply Ext.alloc | apply Ext.drewN | apply Ext.drew))
      have e_wr_W0 : Ext wr (wr.alloc (.cells #[.int .u8 x.kind, .int .i64 x.elem, .int .i64 x.many, .slice A3 x.parts.length c3] 87)) := (by repeat (first | assumption | exact Ext.refl _ | exact Ext.of_xt _ _ | apply Ext.alloc | apply Ext.drewN | apply Ext.drew))
      have hsz : wr.heap.size < (wr.alloc (.cells #[.int .u8 x.kind, .int .i64 x.elem, .int .i64 x.many, .slice A3 x.parts.length c3] 87)).heap.size := by simp
      generalize wr.alloc (.cells #[.int .u8 x.kind, .int .i64 x.elem, .int .i64 x.many, .slice A3 x.parts.length c3] 87) = W0 at hb0 e_w_W0 e_wr_W0 hsz ⊢
      have c3_ : ∀ W, Ext W0 W → W.cell? ⟨wr.heap.size, 3, none⟩ = some (.slice A3 x.parts.length c3) := stays (blk_cell hb0 3)
      have HB0 := Aside0.mk hb0
      clear hb0
      go_upto_region 7 with (at_builtin; refine app_ints rfl rfl rfl rfl (OwnI.lit (Ext.refl W0) [] (by simp)) (Ext.C (by repeat (first | assumption | exact Ext.refl _ | exact Ext.of_xt _ _ | apply Ext.alloc | apply Ext.drewN | apply Ext.drew)) G3.out) (by repeat (first | assumption | exact Ext.refl _ | exact Ext.of_xt _ _ | apply Ext.alloc | apply Ext.drewN | apply Ext.drew)) (by rw [List.length_nil]; omega) ?_; intro v1 w2 hv1 hw2 _ _; rw [List.nil_append] at hv1; obtain ⟨gA, gc, rfl, hgl, hgC⟩ := hv1.reads; have hb2 := hw2.blk HB0.out; have s3 := blk_cell hb2 3; have f3 := blk_frozen hb2 3; have HV1 := Aside0.mk hv1; have HW2 := Aside0.mk hw2; have HB2 := Aside0.mk hb2; clear hv1 hw2 hgC hb2)
      have hb3 := blk_set HB2.out 3 (.slice gA x.parts.length gc)
      have HV3 := OwnS.lower (OwnS.elder (OwnS.int HV1.out) (p := ⟨wr.heap.size, 3, none⟩) hsz (.slice gA x.parts.length gc)) e_w_W0
      have HO3 := OwnS.young HO.out (e_wr_W0.trans HW2.out) (p := ⟨wr.heap.size, 3, none⟩) (Nat.le_refl _) (.slice gA x.parts.length gc)
      have e_w_W3 : Ext w (w2.setCell ⟨wr.heap.size, 3, none⟩ (.slice gA x.parts.length gc)) := Ext.set (e_w_W0.trans HW2.out) hxr.size _
      generalize w2.setCell ⟨wr.heap.size, 3, none⟩ (.slice gA x.parts.length gc) = W3 at hb3 HV3 HO3 e_w_W3 ⊢
      have n0 : ∀ W, Ext W3 W → W.cell? ⟨wr.heap.size, 0, none⟩ = some (.int .u8 x.kind) := stays (blk_cell hb3 0)
      have n1 : ∀ W, Ext W3 W → W.cell? ⟨wr.heap.size, 1, none⟩ = some (.int .i64 x.elem) := stays (blk_cell hb3 1)
      have n2 : ∀ W, Ext W3 W → W.cell? ⟨wr.heap.size, 2, none⟩ = some (.int .i64 x.many) := stays (blk_cell hb3 2)
      have n3 : ∀ W, Ext W3 W → W.cell? ⟨wr.heap.size, 3, none⟩ = some (.slice gA x.parts.length gc) := stays (blk_cell hb3 3)
      have HV3 := Aside0.mk HV3
      have HO3 := Aside0.mk HO3
      clear hb3 s3 f3
      go_wp2_with (at_builtin; refine app_el kTyp Tryd.underlying22 infoTyp rfl (by decide) (by omega) (by omega) (by decide) (y := x) (cs := [.int .u8 x.kind, .int .i64 x.elem, .int .i64 x.many, .slice gA x.parts.length gc]) rfl rfl rfl rfl HO3.out (kTyp_mkM _ _ _ x HV3.out) e_w_W3 (by rw [List.length_take]; omega) ?_; intro v3 w4 hv3 hw4 _ _)
      go_roundw
      case rel => exact ⟨k + 1, _, by omega, by go_num, rfl, ⟨by rw [HT.out]; exact hv3⟩, hw4⟩
      case measure => simp [intOf]; omega
    · obtain rfl : k = t.length := by omega
      have HO' : OwnS kTyp 87 w wr v t := by have := HO.out; rwa [List.take_length] at this
      clear HO
      go_wp2
      go_ret
      exact ⟨_, rfl, HO', hxr⟩

set_option maxRecDepth 100000 in
set_option maxHeartbeats 2000000 in
/-- Two tables that read as one are the same. -/
theorem sameT_c (t : List Typ) (A B : Option Addr) (c d : Nat) (w : World) (hA : Kd.C kTyp w A t.length t) (hB : Kd.C kTyp w B t.length t) :
    Calls Tryd.prog 62 #[.slice A t.length c, .slice B t.length d] w fun e w' => e = .returned (.bool true) ∧ Ext w w' := by
  have HA := Aside0.mk hA
  have HB := Aside0.mk hB
  have hlen : t.length ≤ 9223372036854775807 := hA.2.1
  clear hA hB
  go_enter Tryd.func62, Tryd.ntmps62
  go_wp2
  go_loopw [5] (fun i wr => ∃ (k : Nat), k ≤ t.length ∧ i = .int .i64 k ∧ Ext w wr) (fun i _ => t.length - (intOf i).toNat)
  case atStart => exact ⟨0, by omega, rfl, Ext.refl _⟩
  case round =>
    obtain ⟨k, hk, rfl, hxr⟩ := hrel
    by_cases hlt : k < t.length
    · obtain ⟨ad, A3, c3, rfl, a0, a1, a2, a3, l3, g3⟩ := at_Typ (hxr.C HA.out) k hlt
      obtain ⟨bd, B3, d3, rfl, b0, b1, b2, b3, m3, h3⟩ := at_Typ (hxr.C HB.out) k hlt
      generalize t[k] = x at *
      have G3 := Aside0.mk g3
      have H3 := Aside0.mk h3
      have hpl : x.parts.length ≤ 9223372036854775807 := g3.2.1
      clear g3 h3
      go_wp2
      go_quiet (fail)
      go_wp2
      obtain ⟨wo, hwo⟩ : ∃ wo, wo = wr := ⟨_, rfl⟩
      rw [← hwo] at a0 a1 a2 a3 b0 b1 b2 b3 G3 H3 hxr
      have e0 : Ext wo wr := by rw [hwo]; exact Ext.refl _
      clear hwo
      go_loopw [6] (fun i wq => ∃ (j : Nat), j ≤ x.parts.length ∧ i = .int .i64 j ∧ Ext wo wq) (fun i _ => x.parts.length - (intOf i).toNat)
      case atStart => exact ⟨0, by omega, rfl, (by repeat (first | assumption | exact Ext.refl _ | exact Ext.of_xt _ _ | apply Ext.alloc | apply Ext.drewN | apply Ext.drew))⟩
      case round =>
        obtain ⟨j, hj, rfl, hxq⟩ := hrel
        rename_i wq
        by_cases hjl : j < x.parts.length
        · obtain ⟨ad3, rfl, p0⟩ := at_int (hxq.C G3.out) j hjl
          obtain ⟨bd3, rfl, q0⟩ := at_int (hxq.C H3.out) j hjl
          generalize x.parts[j] = y at *
          go_wp2
          go_quiet (fail)
          go_wp2
          go_roundw
          case rel => exact ⟨j + 1, by omega, by go_num, (by repeat (first | assumption | exact Ext.refl _ | exact Ext.of_xt _ _ | apply Ext.alloc | apply Ext.drewN | apply Ext.drew))⟩
          case measure => simp [intOf]; omega
        · obtain rfl : j = x.parts.length := by omega
          have hxw := hxr.trans hxq
          go_wp2
          go_roundw
          case rel => exact ⟨k + 1, by omega, by go_num, hxw⟩
          case measure => simp [intOf]; omega
    · obtain rfl : k = t.length := by omega
      go_wp2
      go_ret
      exact ⟨rfl, hxr⟩
end Go.Proofs.YtjbnabjjbofhjaaDoor.Fes
