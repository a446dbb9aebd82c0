/- The reference of layer 3 (types): cells, the check, copies, comparison. -/
import Derived.Test.YtjbnabjjbofhjaaDoorR03
set_option linter.unusedVariables false
set_option linter.unusedSimpArgs false
namespace Go.Proofs.YtjbnabjjbofhjaaDoor.Fes
open Go.RowKit Go.Proofs.YtjbnabjjbofhjaaDoorW.PrintWords

set_option maxHeartbeats 2000000 in
theorem ofR_c (t : List Typ) (A : Option Addr) (c : Nat) : ∀ (n k : Nat) (w : World), k < n → k < t.length → Goods t k → (∀ i, i < k → (ofR t i).length ≤ 32) → Kd.C kTyp w A t.length t →
    Calls Tryd.prog 169 #[.slice A t.length c, .int .i64 k] w fun e w' => ∃ B d, e = .returned (.slice B (ofR t k).length d) ∧ (ofR t k).length ≤ d ∧ Kd.C (Kd.int .i64) w' B (ofR t k).length (ofR t k) ∧ Ext w w' := by
  intro n
  induction n with
  | zero => intro k w h; exact absurd h (by omega)
  | succ n ih =>
    intro k w hn hk hg hs hA
    have IH := Aside0.mk ih
    clear ih
    have HG := Aside0.mk hg
    have HS := Aside0.mk hs
    have HA := Aside0.mk hA
    have hgd : t.getD k zTyp = t[k] := by simp [hk]
    obtain ⟨ad, A3, c3, rfl, a0, a1, a2, a3, l3, g3⟩ := at_Typ hA k hk
    have H4 := Aside0.mk (hg.parts (t := t) (k := k))
    have H5 := Aside0.mk (hg.elem (t := t) (k := k))
    have R4 := Aside0.mk (ofR_4 hg)
    have R5 := Aside0.mk (ofR_5 hg)
    have R1 := Aside0.mk (ofR_1 (t := t) (k := k))
    rw [hgd] at H4 H5 R4 R5 R1
    clear hg hs hA hgd
    generalize t[k] = x at *
    have G3 := Aside0.mk g3
    clear g3
    by_cases h4 : x.kind = 4
    · have e4 : (x.kind == 4) = true := by simp [h4]
      obtain ⟨hp8, hpb⟩ := H4.out h4
      have HPB := Aside0.mk hpb
      have HR := Aside0.mk (R4.out h4)
      clear h4 hpb H4 H5 R4 R5 R1
      go_enter Tryd.func169, Tryd.ntmps169
      go_wp2
      (have e_w_W0 : Ext w (w.alloc (.cells #[.int .u8 x.kind, .int .i64 x.elem, .int .i64 x.many, .slice A3 x.parts.length c3] 87)) := (by repeat (first | assumption | exact Ext.refl _ | exact Ext.of_xt _ _ | apply Ext.alloc | apply Ext.drewN | apply Ext.drew)); have b_W0_0_0 := stays (w := w.alloc (.cells #[.int .u8 x.kind, .int .i64 x.elem, .int .i64 x.many, .slice A3 x.parts.length c3] 87)) (a := ⟨w.heap.size, 0, none⟩) (by first | (go_simp; rfl) | rfl); have b_W0_0_1 := stays (w := w.alloc (.cells #[.int .u8 x.kind, .int .i64 x.elem, .int .i64 x.many, .slice A3 x.parts.length c3] 87)) (a := ⟨w.heap.size, 1, none⟩) (by first | (go_simp; rfl) | rfl); have b_W0_0_2 := stays (w := w.alloc (.cells #[.int .u8 x.kind, .int .i64 x.elem, .int .i64 x.many, .slice A3 x.parts.length c3] 87)) (a := ⟨w.heap.size, 2, none⟩) (by first | (go_simp; rfl) | rfl); have b_W0_0_3 := stays (w := w.alloc (.cells #[.int .u8 x.kind, .int .i64 x.elem, .int .i64 x.many, .slice A3 x.parts.length c3] 87)) (a := ⟨w.heap.size, 3, none⟩) (by first | (go_simp; rfl) | rfl); generalize w.alloc (.cells #[.int .u8 x.kind, .int .i64 x.elem, .int .i64 x.many, .slice A3 x.parts.length c3] 87) = W0 at e_w_W0 b_W0_0_0 b_W0_0_1 b_W0_0_2 b_W0_0_3 ⊢)
      go_loopw [6, 7] (fun l i wr => ∃ (j : Nat) (v : Value), j ≤ x.parts.length ∧ i = .int .i64 j ∧ v = l ∧ Aside0 (OwnI W0 wr v ((x.parts.take j).flatMap fun p => ofR t p.toNat)) ∧ Ext W0 wr) (fun _ i _ => x.parts.length - (intOf i).toNat)
      case atStart => exact ⟨0, _, by omega, rfl, rfl, ⟨OwnI.nil _ _⟩, Ext.refl _⟩
      case round =>
        obtain ⟨j, v, hj, rfl, rfl, HO, hxr⟩ := hrel
        have e_w_wr : Ext w wr := e_w_W0.trans hxr
        by_cases hlt : j < x.parts.length
        · obtain ⟨bd, rfl, b0⟩ := at_int (e_w_wr.C G3.out) j hlt
          have hpj := HPB.out _ (List.getElem_mem hlt)
          have HT := Aside0.mk (flatMap_take_snoc (fun p => ofR t p.toNat) x.parts j hlt)
          have hle := flatMap_len_le (fun p => ofR t p.toNat) 32 (x.parts.take j) (fun p hp => by
            have := HPB.out p (List.mem_of_mem_take hp)
            exact HS.out p.toNat (by omega))
          rw [List.length_take] at hle
          have hle2 : ((x.parts.take j).flatMap fun p => ofR t p.toNat).length ≤ 256 := Nat.le_trans hle (by omega)
          have HLE := Aside0.mk hle2
          clear hle hle2
          generalize x.parts[j] = y at *
          obtain ⟨q, rfl⟩ := Int.eq_ofNat_of_zero_le hpj.1
          have hq : q < k := by omega
          have hsq := HS.out q hq
          rw [Int.toNat_natCast] at HT
          clear hpj
          go_wp2_with fail
          refine (IH.out q _ (by omega) (by omega) (HG.out.mono (by omega)) (fun i hi => HS.out i (by omega)) (Ext.C (by repeat (first | assumption | exact Ext.refl _ | exact Ext.of_xt _ _ | apply Ext.alloc | apply Ext.drewN | apply Ext.drew)) HA.out)).mono ?_
          rintro _ w1 ⟨B, d, rfl, hd, hC, hx1⟩
          have HC := Aside0.mk hC
          have HO1 := Aside0.mk (HO.out.ext hx1)
          have e_W0_w1 : Ext W0 w1 := hxr.trans hx1
          clear hC hx1 HO
          go_wp2_with (at_builtin; refine app_ints rfl rfl rfl rfl HO1.out HC.out (by repeat (first | assumption | exact Ext.refl _ | exact Ext.of_xt _ _ | apply Ext.alloc | apply Ext.drewN | apply Ext.drew)) (by have := HLE.out; omega) ?_; intro v1 w3 hv1 hw3 _ _)
          go_roundw
          case rel => exact ⟨j + 1, _, by omega, by go_num, rfl, ⟨by rw [HT.out]; exact hv1⟩, hw3⟩
          case measure => simp [intOf]; omega
        · obtain rfl : j = x.parts.length := by omega
          have HO' : OwnI W0 wr v (ofR t k) := by have := HO.out; rw [List.take_length] at this; rwa [HR.out]
          obtain ⟨vA, vc, rfl, hvl, hvC⟩ := HO'.reads
          clear HO HO'
          go_wp2
          go_ret
          exact ⟨_, _, rfl, hvl, hvC, e_w_wr⟩
    · by_cases h5 : x.kind = 5
      · have e4 : (x.kind == 4) = false := by simp [h4]
        have e5 : (x.kind == 5) = true := by simp [h5]
        obtain ⟨he0, he1, hm1, hm2⟩ := H5.out h5
        have HR := Aside0.mk (R5.out h5)
        obtain ⟨m, hm⟩ := Int.eq_ofNat_of_zero_le (show 0 ≤ x.many by omega)
        obtain ⟨q, hq⟩ := Int.eq_ofNat_of_zero_le he0
        have HM := Aside0.mk hm
        have HQ := Aside0.mk hq
        rw [hm] at hm1 hm2
        rw [hq] at he1
        rw [hm, hq, Int.toNat_natCast, Int.toNat_natCast] at HR
        have hqk : q < k := by omega
        have hsq := HS.out q hqk
        rw [hm] at a2
        rw [hq] at a1
        clear h4 h5 hm hq H4 H5 R4 R5 R1 he0 he1
        go_enter Tryd.func169, Tryd.ntmps169
        go_wp2
        (have e_w_W0 : Ext w (w.alloc (.cells #[.int .u8 x.kind, .int .i64 q, .int .i64 m, .slice A3 x.parts.length c3] 87)) := (by repeat (first | assumption | exact Ext.refl _ | exact Ext.of_xt _ _ | apply Ext.alloc | apply Ext.drewN | apply Ext.drew)); have b_W0_0_0 := stays (w := w.alloc (.cells #[.int .u8 x.kind, .int .i64 q, .int .i64 m, .slice A3 x.parts.length c3] 87)) (a := ⟨w.heap.size, 0, none⟩) (by first | (go_simp; rfl) | rfl); have b_W0_0_1 := stays (w := w.alloc (.cells #[.int .u8 x.kind, .int .i64 q, .int .i64 m, .slice A3 x.parts.length c3] 87)) (a := ⟨w.heap.size, 1, none⟩) (by first | (go_simp; rfl) | rfl); have b_W0_0_2 := stays (w := w.alloc (.cells #[.int .u8 x.kind, .int .i64 q, .int .i64 m, .slice A3 x.parts.length c3] 87)) (a := ⟨w.heap.size, 2, none⟩) (by first | (go_simp; rfl) | rfl); have b_W0_0_3 := stays (w := w.alloc (.cells #[.int .u8 x.kind, .int .i64 q, .int .i64 m, .slice A3 x.parts.length c3] 87)) (a := ⟨w.heap.size, 3, none⟩) (by first | (go_simp; rfl) | rfl); generalize w.alloc (.cells #[.int .u8 x.kind, .int .i64 q, .int .i64 m, .slice A3 x.parts.length c3] 87) = W0 at e_w_W0 b_W0_0_0 b_W0_0_1 b_W0_0_2 b_W0_0_3 ⊢)
        go_loopw [8, 9] (fun l i wr => ∃ (j : Nat) (v : Value), j ≤ m ∧ i = .int .i64 j ∧ v = l ∧ Aside0 (OwnI W0 wr v ((List.replicate j ()).flatMap fun _ => ofR t q)) ∧ Ext W0 wr) (fun _ i _ => m - (intOf i).toNat)
        case atStart => exact ⟨0, _, by omega, rfl, rfl, ⟨OwnI.nil _ _⟩, Ext.refl _⟩
        case round =>
          obtain ⟨j, v, hj, rfl, rfl, HO, hxr⟩ := hrel
          have e_w_wr : Ext w wr := e_w_W0.trans hxr
          by_cases hlt : j < m
          · have HT : Aside0 ((List.replicate (j + 1) ()).flatMap (fun _ => ofR t q) = (List.replicate j ()).flatMap (fun _ => ofR t q) ++ ofR t q) := ⟨by rw [List.replicate_succ', List.flatMap_append]; simp⟩
            have hle := flatMap_len_le (fun _ => ofR t q) 32 (List.replicate j ()) (fun _ _ => hsq)
            rw [List.length_replicate] at hle
            have HLE := Aside0.mk (show ((List.replicate j ()).flatMap fun _ => ofR t q).length ≤ 512 from Nat.le_trans hle (by omega))
            clear hle
            go_wp2_with fail
            refine (IH.out q _ (by omega) (by omega) (HG.out.mono (by omega)) (fun i hi => HS.out i (by omega)) (Ext.C (by repeat (first | assumption | exact Ext.refl _ | exact Ext.of_xt _ _ | apply Ext.alloc | apply Ext.drewN | apply Ext.drew)) HA.out)).mono ?_
            rintro _ w1 ⟨B, d, rfl, hd, hC, hx1⟩
            have HC := Aside0.mk hC
            have HO1 := Aside0.mk (HO.out.ext hx1)
            have e_W0_w1 : Ext W0 w1 := hxr.trans hx1
            clear hC hx1 HO
            go_wp2_with (at_builtin; refine app_ints rfl rfl rfl rfl HO1.out HC.out (by repeat (first | assumption | exact Ext.refl _ | exact Ext.of_xt _ _ | apply Ext.alloc | apply Ext.drewN | apply Ext.drew)) (by have := HLE.out; omega) ?_; intro v1 w3 hv1 hw3 _ _)
            go_roundw
            case rel => exact ⟨j + 1, _, by omega, by go_num, rfl, ⟨by rw [HT.out]; exact hv1⟩, hw3⟩
            case measure => simp [intOf]; omega
          · obtain rfl : j = m := by omega
            have HO' : OwnI W0 wr v (ofR t k) := by rw [HR.out]; exact HO.out
            obtain ⟨vA, vc, rfl, hvl, hvC⟩ := HO'.reads
            clear HO HO'
            go_wp2
            go_ret
            exact ⟨_, _, rfl, hvl, hvC, e_w_wr⟩
      · have e4 : (x.kind == 4) = false := by simp [h4]
        have e5 : (x.kind == 5) = false := by simp [h5]
        have HR := Aside0.mk (R1.out h4 h5)
        clear h4 h5 H4 H5 R4 R5 R1
        go_enter Tryd.func169, Tryd.ntmps169
        go_wp2
        go_ret
        rw [HR.out]
        exact ⟨_, 1, rfl, by simp, C_litI [(k : Int)] (by simp) (by simp) _, (by repeat (first | assumption | exact Ext.refl _ | exact Ext.of_xt _ _ | apply Ext.alloc | apply Ext.drewN | apply Ext.drew))⟩

/-- the reference's check: the types below a number may be -/
def okR (t : List Typ) (k : Nat) : Bool := (List.range k).all fun i => mayR t (t.getD i zTyp) i && decide ((ofR t i).length ≤ 32)
def chkR (t : List Typ) : Int := if 16 < t.length then 4 else if okR t t.length then 0 else 30
theorem okR_succ (t : List Typ) (k : Nat) : okR t (k + 1) = (okR t k && (mayR t (t.getD k zTyp) k && decide ((ofR t k).length ≤ 32))) := by
  unfold okR
  rw [List.range_succ, List.all_append]
  simp only [List.all_cons, List.all_nil, Bool.and_true]
theorem okR_spec {t : List Typ} {k : Nat} (h : okR t k = true) : ∀ i, i < k → mayR t (t.getD i zTyp) i = true ∧ (ofR t i).length ≤ 32 := by
  intro i hi
  have := List.all_eq_true.1 h i (List.mem_range.2 hi)
  simpa using this
theorem okR_false {t : List Typ} {k j : Nat} (h : okR t k = false) (hj : k ≤ j) : okR t j = false := by
  rw [Bool.eq_false_iff] at h ⊢
  intro hb
  apply h
  unfold okR at hb ⊢
  rw [List.all_eq_true] at hb ⊢
  intro i hi
  exact hb i (List.mem_range.2 (by have := List.mem_range.1 hi; omega))
theorem ofR_len {t : List Typ} {k : Nat} (hg : Goods t k) (hs : ∀ i, i < k → (ofR t i).length ≤ 32) : (ofR t k).length ≤ 512 := by
  by_cases h4 : (t.getD k zTyp).kind = 4
  · rw [ofR_4 hg h4]
    have hp := hg.parts h4
    have := flatMap_len_le (fun p => ofR t p.toNat) 32 (t.getD k zTyp).parts (fun p h => by have := hp.2 p h; exact hs _ (by omega))
    omega
  by_cases h5 : (t.getD k zTyp).kind = 5
  · rw [ofR_5 hg h5]
    have hp := hg.elem h5
    have := flatMap_len_le (fun _ => ofR t (t.getD k zTyp).elem.toNat) 32 (List.replicate (t.getD k zTyp).many.toNat ()) (fun p h => hs _ (by omega))
    rw [List.length_replicate] at this
    omega
  rw [ofR_1 h4 h5]
  simp

set_option maxHeartbeats 1000000 in
theorem chkR_c (t : List Typ) (A : Option Addr) (c : Nat) (w : World) (hA : Kd.C kTyp w A t.length t) :
    Calls Tryd.prog 147 #[.slice A t.length c] w fun e w' => e = .returned (.int .i64 (chkR t)) ∧ Ext w w' := by
  have HA := Aside0.mk hA
  clear hA
  by_cases h16 : 16 < t.length
  · have HF : Hid (chkR t = 4) := by unfold Hid chkR; rw [if_pos h16]
    go_enter Tryd.func147, Tryd.ntmps147
    go_wp2
    go_ret
    exact ⟨ret_int HF.out.symm, Ext.refl _⟩
  · go_enter Tryd.func147, Tryd.ntmps147
    go_wp2
    go_loopw [3] (fun i wr => ∃ (j : Nat), j ≤ t.length ∧ i = .int .i64 j ∧ Aside0 (okR t j = true) ∧ Ext w wr) (fun i _ => t.length - (intOf i).toNat)
    case atStart => exact ⟨0, by omega, rfl, ⟨rfl⟩, Ext.refl _⟩
    case round =>
      obtain ⟨j, hj, rfl, HO, hxr⟩ := hrel
      by_cases hlt : j < t.length
      · have HN := Aside0.mk (okR_succ t j)
        have hgd : t.getD j zTyp = t[j] := by simp [hlt]
        have HGD := Aside0.mk hgd
        clear hgd
        cases hm : mayR t t[j] j with
        | false =>
          have HF : Hid (chkR t = 30) := by
            unfold Hid chkR
            rw [if_neg h16, okR_false (k := j + 1) (by rw [HN.out, HGD.out, hm]; simp) (by omega)]
            rfl
          go_wp2_with fail
          refine (mayR_c t A c j hlt _ (Ext.C (by repeat (first | assumption | exact Ext.refl _ | exact Ext.of_xt _ _ | apply Ext.alloc | apply Ext.drewN | apply Ext.drew)) HA.out)).mono ?_
          (rintro _ w1 ⟨rfl, hx_⟩; have e_w_w1 : Ext w w1 := Ext.trans (by repeat (first | assumption | exact Ext.refl _ | exact Ext.of_xt _ _ | apply Ext.alloc | apply Ext.drewN | apply Ext.drew)) hx_; clear hx_)
          rw [hm]
          go_wp2
          go_ret
          exact ⟨ret_int HF.out.symm, (by repeat (first | assumption | exact Ext.refl _ | exact Ext.of_xt _ _ | apply Ext.alloc | apply Ext.drewN | apply Ext.drew))⟩
        | true =>
          have HG := Aside0.mk (show Goods t j from fun i hi => by
            rcases Nat.lt_or_ge i j with h | h
            · exact (okR_spec HO.out i h).1
            · obtain rfl : i = j := by omega
              rw [HGD.out]; exact hm)
          have HS := Aside0.mk (fun i hi => (okR_spec HO.out i hi).2)
          have hlen := ofR_len HG.out HS.out
          go_wp2_with fail
          refine (mayR_c t A c j hlt _ (Ext.C (by repeat (first | assumption | exact Ext.refl _ | exact Ext.of_xt _ _ | apply Ext.alloc | apply Ext.drewN | apply Ext.drew)) HA.out)).mono ?_
          (rintro _ w1 ⟨rfl, hx_⟩; have e_w_w1 : Ext w w1 := Ext.trans (by repeat (first | assumption | exact Ext.refl _ | exact Ext.of_xt _ _ | apply Ext.alloc | apply Ext.drewN | apply Ext.drew)) hx_; clear hx_)
          rw [hm]
          go_wp2_with fail
          refine (ofR_c t A c (j + 1) j _ (by omega) hlt HG.out HS.out (Ext.C (by repeat (first | assumption | exact Ext.refl _ | exact Ext.of_xt _ _ | apply Ext.alloc | apply Ext.drewN | apply Ext.drew)) HA.out)).mono ?_
          rintro _ w2 ⟨B, d, rfl, _, _, hx2⟩
          have e_w_w2 : Ext w w2 := e_w_w1.trans hx2
          rcases (show decide ((ofR t j).length ≤ 32) = true ∨ decide ((ofR t j).length ≤ 32) = false by cases decide ((ofR t j).length ≤ 32) <;> simp) with h32 | h32
          · have HN' := Aside0.mk (show okR t (j + 1) = true by rw [HN.out, HGD.out, hm, HO.out, h32]; rfl)
            have hle : (ofR t j).length ≤ 32 := by simpa using h32
            generalize (ofR t j).length = q at *
            go_wp2
            go_roundw
            case rel => exact ⟨j + 1, by omega, by go_num, HN', e_w_w2⟩
            case measure => simp [intOf]; omega
          · have HF : Hid (chkR t = 30) := by
              unfold Hid chkR
              rw [if_neg h16, okR_false (k := j + 1) (by rw [HN.out, HGD.out, hm, h32]; simp) (by omega)]
              rfl
            have hle : 32 < (ofR t j).length := by simpa using h32
            generalize (ofR t j).length = q at *
            go_wp2
            go_ret
            exact ⟨ret_int HF.out.symm, (by repeat (first | assumption | exact Ext.refl _ | exact Ext.of_xt _ _ | apply Ext.alloc | apply Ext.drewN | apply Ext.drew))⟩
      · obtain rfl : j = t.length := by omega
        have HF : Hid (chkR t = 0) := by
          unfold Hid chkR
          rw [if_neg h16, HO.out]
          rfl
        go_wp2
        go_ret
        exact ⟨ret_int HF.out.symm, hxr⟩
end Go.Proofs.YtjbnabjjbofhjaaDoor.Fes
