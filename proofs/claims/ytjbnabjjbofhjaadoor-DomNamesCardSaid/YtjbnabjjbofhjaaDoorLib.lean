/- slices.IndexFunc, slices.ContainsFunc at the program's element types, for whatever predicate that leaves memory alone; slices.Index, Contains at int. -/
import Derived.Test.YtjbnabjjbofhjaaDoorKinds
set_option linter.unusedVariables false
set_option linter.unusedSimpArgs false
namespace Go.Proofs.YtjbnabjjbofhjaaDoor.Fes
open Go.RowKit Go.Proofs.YtjbnabjjbofhjaaDoorW.PrintWords

/-- A predicate that is called with an element of xs, in a world that is an extension of w: it answers p, and adds blocks alone. -/
def PredE {α : Type} (P : Program) (g : Nat) (lb : Array Value) (d : Kd α) (vl : List Value → Value) (p : α → Bool) (xs : List α) (w : World) : Prop :=
  ∀ (W : World) (x : α) (cs : List Value), x ∈ xs → Ext w W → d.K W x cs → Calls P g (#[vl cs] ++ lb) W fun e w' => e = .returned (.bool (p x)) ∧ Ext W w'
theorem PredE.ext {α : Type} {P : Program} {g : Nat} {lb : Array Value} {d : Kd α} {vl : List Value → Value} {p : α → Bool} {xs : List α} {w w1 : World} (h : PredE P g lb d vl p xs w) (he : Ext w w1) : PredE P g lb d vl p xs w1 :=
  fun W x cs hx hW hK => h W x cs hx (he.trans hW) hK
def vAgg (cs : List Value) : Value := .agg cs.toArray
def vOne (cs : List Value) : Value := cs.headD undef
/-- The first place at which p holds, or -1. -/
def idxF {α : Type} (p : α → Bool) (xs : List α) : Int := if xs.any p then (xs.findIdx p : Int) else -1
theorem idxF_miss {α : Type} (p : α → Bool) (xs : List α) (k : Nat) (hk : xs.length ≤ k) (h : ∀ j (hj : j < xs.length), j < k → p xs[j] = false) : idxF p xs = -1 := by
  unfold idxF
  rw [if_neg]
  simp only [List.any_eq_true, not_exists, not_and, Bool.not_eq_true]
  intro x hx
  obtain ⟨i, hi, rfl⟩ := List.getElem_of_mem hx
  exact h i hi (by omega)
theorem idxF_hit {α : Type} (p : α → Bool) (xs : List α) (k : Nat) (hk : k < xs.length) (h : ∀ j (hj : j < xs.length), j < k → p xs[j] = false) (hp : p xs[k] = true) : idxF p xs = k := by
  unfold idxF
  rw [if_pos (List.any_eq_true.2 ⟨_, List.getElem_mem hk, hp⟩)]
  congr 1
  exact (List.findIdx_eq hk).2 ⟨hp, fun j hj => h j (by omega) hj⟩
theorem idxF_any {α : Type} (p : α → Bool) (xs : List α) : decide (idxF p xs ≥ 0) = xs.any p := by
  unfold idxF
  split
  · rename_i h; rw [h]; simp
  · rename_i h; rw [Bool.not_eq_true] at h; rw [h]; simp


set_option maxHeartbeats 400000 in
theorem idxI_c (g : Nat) (lb : Array Value) (eg : ∀ args w, (callFunc g args).run Tryd.prog w = .ok (.enter g args) w) (p : Int → Bool) (A : Option Addr) (c : Nat) (xs : List Int) (w : World) (hA : Kd.C (Kd.int .i64) w A xs.length xs)
    (hp : PredE Tryd.prog g lb (Kd.int .i64) vOne p xs w) :
    Calls Tryd.prog 174 #[.slice A xs.length c, .func (.func g) #[] lb] w fun e w' => e = .returned (.int .i64 (idxF p xs)) ∧ Ext w w' := by
  have HA := Aside0.mk hA
  have HP := Aside0.mk hp
  have hlen : xs.length ≤ 9223372036854775807 := hA.2.1
  clear hA hp
  go_enter Tryd.func174, Tryd.ntmps174
  go_wp2
  go_loopw [8] (fun i wr => ∃ k : Nat, k ≤ xs.length ∧ Hid (∀ j (hj : j < xs.length), j < k → p xs[j] = false) ∧ i = .int .i64 k ∧ Ext w wr) (fun i _ => xs.length - (intOf i).toNat)
  case atStart => exact ⟨0, by omega, fun j hj h => absurd h (by omega), rfl, Ext.refl _⟩
  case round =>
    obtain ⟨k, hk, hpre, rfl, hb⟩ := hrel
    by_cases hlt : k < xs.length
    · obtain ⟨ad, rfl, a0⟩ := at_int (hb.C HA.out) k hlt
      cases hq : p xs[k] with
      | true =>
        go_wp2_with fail
        go_at_fn g
        refine (HP.out _ xs[k] _ (List.getElem_mem hlt) (hb.trans (by repeat (first | assumption | exact Ext.refl _ | exact Ext.of_xt _ _ | apply Ext.alloc | apply Ext.drewN | apply Ext.drew))) rfl).mono ?_
        rintro e w1 ⟨rfl, h1⟩
        rw [hq]
        go_wp2
        go_ret
        exact ⟨ret_int (idxF_hit p xs k hlt hpre.out hq).symm, hb.trans (Ext.trans (by repeat (first | assumption | exact Ext.refl _ | exact Ext.of_xt _ _ | apply Ext.alloc | apply Ext.drewN | apply Ext.drew)) h1)⟩
      | false =>
        go_wp2_with fail
        go_at_fn g
        refine (HP.out _ xs[k] _ (List.getElem_mem hlt) (hb.trans (by repeat (first | assumption | exact Ext.refl _ | exact Ext.of_xt _ _ | apply Ext.alloc | apply Ext.drewN | apply Ext.drew))) rfl).mono ?_
        rintro e w1 ⟨rfl, h1⟩
        rw [hq]
        go_wp2
        go_roundw
        case rel =>
          refine ⟨k + 1, by omega, fun j hj h => ?_, by go_num, hb.trans (Ext.trans (by repeat (first | assumption | exact Ext.refl _ | exact Ext.of_xt _ _ | apply Ext.alloc | apply Ext.drewN | apply Ext.drew)) h1)⟩
          rcases Nat.lt_or_ge j k with hj' | hj'
          · exact hpre.out j hj hj'
          · obtain rfl : j = k := by omega
            exact hq
        case measure => simp [intOf]; omega
    · go_wp2
      go_ret
      exact ⟨ret_int (idxF_miss p xs k (by omega) hpre.out).symm, hb⟩

set_option maxHeartbeats 400000 in
theorem hasI_c (g : Nat) (lb : Array Value) (eg : ∀ args w, (callFunc g args).run Tryd.prog w = .ok (.enter g args) w) (p : Int → Bool) (A : Option Addr) (c : Nat) (xs : List Int) (w : World) (hA : Kd.C (Kd.int .i64) w A xs.length xs)
    (hp : PredE Tryd.prog g lb (Kd.int .i64) vOne p xs w) :
    Calls Tryd.prog 160 #[.slice A xs.length c, .func (.func g) #[] lb] w fun e w' => e = .returned (.bool (xs.any p)) ∧ Ext w w' := by
  have HA := Aside0.mk hA
  have HP := Aside0.mk hp
  clear hA hp
  go_enter Tryd.func160, Tryd.ntmps160
  go_wp2_with fail
  refine (idxI_c g lb eg p A c xs _ HA.out HP.out).mono ?_
  rintro e w1 ⟨rfl, h1⟩
  go_wp2
  go_ret
  exact ⟨ret_bool (idxF_any p xs), h1⟩

set_option maxHeartbeats 400000 in
theorem idxFc_c (g : Nat) (lb : Array Value) (eg : ∀ args w, (callFunc g args).run Tryd.prog w = .ok (.enter g args) w) (p : Fc → Bool) (A : Option Addr) (c : Nat) (xs : List Fc) (w : World) (hA : Kd.C kFc w A xs.length xs)
    (hp : PredE Tryd.prog g lb kFc vAgg p xs w) :
    Calls Tryd.prog 140 #[.slice A xs.length c, .func (.func g) #[] lb] w fun e w' => e = .returned (.int .i64 (idxF p xs)) ∧ Ext w w' := by
  have HA := Aside0.mk hA
  have HP := Aside0.mk hp
  have hlen : xs.length ≤ 9223372036854775807 := hA.2.1
  clear hA hp
  go_enter Tryd.func140, Tryd.ntmps140
  go_wp2
  go_loopw [8] (fun i wr => ∃ k : Nat, k ≤ xs.length ∧ Hid (∀ j (hj : j < xs.length), j < k → p xs[j] = false) ∧ i = .int .i64 k ∧ Ext w wr) (fun i _ => xs.length - (intOf i).toNat)
  case atStart => exact ⟨0, by omega, fun j hj h => absurd h (by omega), rfl, Ext.refl _⟩
  case round =>
    obtain ⟨k, hk, hpre, rfl, hb⟩ := hrel
    by_cases hlt : k < xs.length
    · obtain ⟨ad, A1, c1, rfl, a0, a1, l1, g1⟩ := at_Fc (hb.C HA.out) k hlt
      cases hq : p xs[k] with
      | true =>
        go_wp2_with fail
        go_at_fn g
        refine (HP.out _ xs[k] _ (List.getElem_mem hlt) (hb.trans (by repeat (first | assumption | exact Ext.refl _ | exact Ext.of_xt _ _ | apply Ext.alloc | apply Ext.drewN | apply Ext.drew))) (kFc_mk _ _ l1 (Ext.C (by repeat (first | assumption | exact Ext.refl _ | exact Ext.of_xt _ _ | apply Ext.alloc | apply Ext.drewN | apply Ext.drew)) g1))).mono ?_
        rintro e w1 ⟨rfl, h1⟩
        rw [hq]
        go_wp2
        go_ret
        exact ⟨ret_int (idxF_hit p xs k hlt hpre.out hq).symm, hb.trans (Ext.trans (by repeat (first | assumption | exact Ext.refl _ | exact Ext.of_xt _ _ | apply Ext.alloc | apply Ext.drewN | apply Ext.drew)) h1)⟩
      | false =>
        go_wp2_with fail
        go_at_fn g
        refine (HP.out _ xs[k] _ (List.getElem_mem hlt) (hb.trans (by repeat (first | assumption | exact Ext.refl _ | exact Ext.of_xt _ _ | apply Ext.alloc | apply Ext.drewN | apply Ext.drew))) (kFc_mk _ _ l1 (Ext.C (by repeat (first | assumption | exact Ext.refl _ | exact Ext.of_xt _ _ | apply Ext.alloc | apply Ext.drewN | apply Ext.drew)) g1))).mono ?_
        rintro e w1 ⟨rfl, h1⟩
        rw [hq]
        go_wp2
        go_roundw
        case rel =>
          refine ⟨k + 1, by omega, fun j hj h => ?_, by go_num, hb.trans (Ext.trans (by repeat (first | assumption | exact Ext.refl _ | exact Ext.of_xt _ _ | apply Ext.alloc | apply Ext.drewN | apply Ext.drew)) h1)⟩
          rcases Nat.lt_or_ge j k with hj' | hj'
          · exact hpre.out j hj hj'
          · obtain rfl : j = k := by omega
            exact hq
        case measure => simp [intOf]; omega
    · go_wp2
      go_ret
      exact ⟨ret_int (idxF_miss p xs k (by omega) hpre.out).symm, hb⟩

set_option maxHeartbeats 400000 in
theorem hasFc_c (g : Nat) (lb : Array Value) (eg : ∀ args w, (callFunc g args).run Tryd.prog w = .ok (.enter g args) w) (p : Fc → Bool) (A : Option Addr) (c : Nat) (xs : List Fc) (w : World) (hA : Kd.C kFc w A xs.length xs)
    (hp : PredE Tryd.prog g lb kFc vAgg p xs w) :
    Calls Tryd.prog 116 #[.slice A xs.length c, .func (.func g) #[] lb] w fun e w' => e = .returned (.bool (xs.any p)) ∧ Ext w w' := by
  have HA := Aside0.mk hA
  have HP := Aside0.mk hp
  clear hA hp
  go_enter Tryd.func116, Tryd.ntmps116
  go_wp2_with fail
  refine (idxFc_c g lb eg p A c xs _ HA.out HP.out).mono ?_
  rintro e w1 ⟨rfl, h1⟩
  go_wp2
  go_ret
  exact ⟨ret_bool (idxF_any p xs), h1⟩

set_option maxHeartbeats 400000 in
theorem idxBl_c (g : Nat) (lb : Array Value) (eg : ∀ args w, (callFunc g args).run Tryd.prog w = .ok (.enter g args) w) (p : Blk → Bool) (A : Option Addr) (c : Nat) (xs : List Blk) (w : World) (hA : Kd.C kBlk w A xs.length xs)
    (hp : PredE Tryd.prog g lb kBlk vAgg p xs w) :
    Calls Tryd.prog 166 #[.slice A xs.length c, .func (.func g) #[] lb] w fun e w' => e = .returned (.int .i64 (idxF p xs)) ∧ Ext w w' := by
  have HA := Aside0.mk hA
  have HP := Aside0.mk hp
  have hlen : xs.length ≤ 9223372036854775807 := hA.2.1
  clear hA hp
  go_enter Tryd.func166, Tryd.ntmps166
  go_wp2
  go_loopw [8] (fun i wr => ∃ k : Nat, k ≤ xs.length ∧ Hid (∀ j (hj : j < xs.length), j < k → p xs[j] = false) ∧ i = .int .i64 k ∧ Ext w wr) (fun i _ => xs.length - (intOf i).toNat)
  case atStart => exact ⟨0, by omega, fun j hj h => absurd h (by omega), rfl, Ext.refl _⟩
  case round =>
    obtain ⟨k, hk, hpre, rfl, hb⟩ := hrel
    by_cases hlt : k < xs.length
    · obtain ⟨ad, A0, c0, rfl, a0, a1, a2, a3, a4, l0, g0⟩ := at_Blk (hb.C HA.out) k hlt
      cases hq : p xs[k] with
      | true =>
        go_wp2_with fail
        go_at_fn g
        refine (HP.out _ xs[k] _ (List.getElem_mem hlt) (hb.trans (by repeat (first | assumption | exact Ext.refl _ | exact Ext.of_xt _ _ | apply Ext.alloc | apply Ext.drewN | apply Ext.drew))) (kBlk_mk _ _ l0 (Ext.C (by repeat (first | assumption | exact Ext.refl _ | exact Ext.of_xt _ _ | apply Ext.alloc | apply Ext.drewN | apply Ext.drew)) g0))).mono ?_
        rintro e w1 ⟨rfl, h1⟩
        rw [hq]
        go_wp2
        go_ret
        exact ⟨ret_int (idxF_hit p xs k hlt hpre.out hq).symm, hb.trans (Ext.trans (by repeat (first | assumption | exact Ext.refl _ | exact Ext.of_xt _ _ | apply Ext.alloc | apply Ext.drewN | apply Ext.drew)) h1)⟩
      | false =>
        go_wp2_with fail
        go_at_fn g
        refine (HP.out _ xs[k] _ (List.getElem_mem hlt) (hb.trans (by repeat (first | assumption | exact Ext.refl _ | exact Ext.of_xt _ _ | apply Ext.alloc | apply Ext.drewN | apply Ext.drew))) (kBlk_mk _ _ l0 (Ext.C (by repeat (first | assumption | exact Ext.refl _ | exact Ext.of_xt _ _ | apply Ext.alloc | apply Ext.drewN | apply Ext.drew)) g0))).mono ?_
        rintro e w1 ⟨rfl, h1⟩
        rw [hq]
        go_wp2
        go_roundw
        case rel =>
          refine ⟨k + 1, by omega, fun j hj h => ?_, by go_num, hb.trans (Ext.trans (by repeat (first | assumption | exact Ext.refl _ | exact Ext.of_xt _ _ | apply Ext.alloc | apply Ext.drewN | apply Ext.drew)) h1)⟩
          rcases Nat.lt_or_ge j k with hj' | hj'
          · exact hpre.out j hj hj'
          · obtain rfl : j = k := by omega
            exact hq
        case measure => simp [intOf]; omega
    · go_wp2
      go_ret
      exact ⟨ret_int (idxF_miss p xs k (by omega) hpre.out).symm, hb⟩

set_option maxHeartbeats 400000 in
theorem hasBl_c (g : Nat) (lb : Array Value) (eg : ∀ args w, (callFunc g args).run Tryd.prog w = .ok (.enter g args) w) (p : Blk → Bool) (A : Option Addr) (c : Nat) (xs : List Blk) (w : World) (hA : Kd.C kBlk w A xs.length xs)
    (hp : PredE Tryd.prog g lb kBlk vAgg p xs w) :
    Calls Tryd.prog 143 #[.slice A xs.length c, .func (.func g) #[] lb] w fun e w' => e = .returned (.bool (xs.any p)) ∧ Ext w w' := by
  have HA := Aside0.mk hA
  have HP := Aside0.mk hp
  clear hA hp
  go_enter Tryd.func143, Tryd.ntmps143
  go_wp2_with fail
  refine (idxBl_c g lb eg p A c xs _ HA.out HP.out).mono ?_
  rintro e w1 ⟨rfl, h1⟩
  go_wp2
  go_ret
  exact ⟨ret_bool (idxF_any p xs), h1⟩

set_option maxHeartbeats 400000 in
theorem idxIn_c (g : Nat) (lb : Array Value) (eg : ∀ args w, (callFunc g args).run Tryd.prog w = .ok (.enter g args) w) (p : Ins → Bool) (A : Option Addr) (c : Nat) (xs : List Ins) (w : World) (hA : Kd.C kIns w A xs.length xs)
    (hp : PredE Tryd.prog g lb kIns vAgg p xs w) :
    Calls Tryd.prog 167 #[.slice A xs.length c, .func (.func g) #[] lb] w fun e w' => e = .returned (.int .i64 (idxF p xs)) ∧ Ext w w' := by
  have HA := Aside0.mk hA
  have HP := Aside0.mk hp
  have hlen : xs.length ≤ 9223372036854775807 := hA.2.1
  clear hA hp
  go_enter Tryd.func167, Tryd.ntmps167
  go_wp2
  go_loopw [8] (fun i wr => ∃ k : Nat, k ≤ xs.length ∧ Hid (∀ j (hj : j < xs.length), j < k → p xs[j] = false) ∧ i = .int .i64 k ∧ Ext w wr) (fun i _ => xs.length - (intOf i).toNat)
  case atStart => exact ⟨0, by omega, fun j hj h => absurd h (by omega), rfl, Ext.refl _⟩
  case round =>
    obtain ⟨k, hk, hpre, rfl, hb⟩ := hrel
    by_cases hlt : k < xs.length
    · obtain ⟨ad, A5, c5, A6, c6, rfl, a0, a1, a2, a3, a4, a5, a6, l5, g5, l6, g6⟩ := at_Ins (hb.C HA.out) k hlt
      cases hq : p xs[k] with
      | true =>
        go_wp2_with fail
        go_at_fn g
        refine (HP.out _ xs[k] _ (List.getElem_mem hlt) (hb.trans (by repeat (first | assumption | exact Ext.refl _ | exact Ext.of_xt _ _ | apply Ext.alloc | apply Ext.drewN | apply Ext.drew))) (kIns_mk _ _ l5 (Ext.C (by repeat (first | assumption | exact Ext.refl _ | exact Ext.of_xt _ _ | apply Ext.alloc | apply Ext.drewN | apply Ext.drew)) g5) l6 (Ext.C (by repeat (first | assumption | exact Ext.refl _ | exact Ext.of_xt _ _ | apply Ext.alloc | apply Ext.drewN | apply Ext.drew)) g6))).mono ?_
        rintro e w1 ⟨rfl, h1⟩
        rw [hq]
        go_wp2
        go_ret
        exact ⟨ret_int (idxF_hit p xs k hlt hpre.out hq).symm, hb.trans (Ext.trans (by repeat (first | assumption | exact Ext.refl _ | exact Ext.of_xt _ _ | apply Ext.alloc | apply Ext.drewN | apply Ext.drew)) h1)⟩
      | false =>
        go_wp2_with fail
        go_at_fn g
        refine (HP.out _ xs[k] _ (List.getElem_mem hlt) (hb.trans (by repeat (first | assumption | exact Ext.refl _ | exact Ext.of_xt _ _ | apply Ext.alloc | apply Ext.drewN | apply Ext.drew))) (kIns_mk _ _ l5 (Ext.C (by repeat (first | assumption | exact Ext.refl _ | exact Ext.of_xt _ _ | apply Ext.alloc | apply Ext.drewN | apply Ext.drew)) g5) l6 (Ext.C (by repeat (first | assumption | exact Ext.refl _ | exact Ext.of_xt _ _ | apply Ext.alloc | apply Ext.drewN | apply Ext.drew)) g6))).mono ?_
        rintro e w1 ⟨rfl, h1⟩
        rw [hq]
        go_wp2
        go_roundw
        case rel =>
          refine ⟨k + 1, by omega, fun j hj h => ?_, by go_num, hb.trans (Ext.trans (by repeat (first | assumption | exact Ext.refl _ | exact Ext.of_xt _ _ | apply Ext.alloc | apply Ext.drewN | apply Ext.drew)) h1)⟩
          rcases Nat.lt_or_ge j k with hj' | hj'
          · exact hpre.out j hj hj'
          · obtain rfl : j = k := by omega
            exact hq
        case measure => simp [intOf]; omega
    · go_wp2
      go_ret
      exact ⟨ret_int (idxF_miss p xs k (by omega) hpre.out).symm, hb⟩

set_option maxHeartbeats 400000 in
theorem hasIn_c (g : Nat) (lb : Array Value) (eg : ∀ args w, (callFunc g args).run Tryd.prog w = .ok (.enter g args) w) (p : Ins → Bool) (A : Option Addr) (c : Nat) (xs : List Ins) (w : World) (hA : Kd.C kIns w A xs.length xs)
    (hp : PredE Tryd.prog g lb kIns vAgg p xs w) :
    Calls Tryd.prog 145 #[.slice A xs.length c, .func (.func g) #[] lb] w fun e w' => e = .returned (.bool (xs.any p)) ∧ Ext w w' := by
  have HA := Aside0.mk hA
  have HP := Aside0.mk hp
  clear hA hp
  go_enter Tryd.func145, Tryd.ntmps145
  go_wp2_with fail
  refine (idxIn_c g lb eg p A c xs _ HA.out HP.out).mono ?_
  rintro e w1 ⟨rfl, h1⟩
  go_wp2
  go_ret
  exact ⟨ret_bool (idxF_any p xs), h1⟩


end Go.Proofs.YtjbnabjjbofhjaaDoor.Fes
