/- The reference of layer 3 (types): what each function answers. -/
import Derived.Test.YtjbnabjjbofhjaaDoorW03
set_option linter.unusedVariables false
set_option linter.unusedSimpArgs false
namespace Go.Proofs.YtjbnabjjbofhjaaDoor.Fes
open Go.RowKit Go.Proofs.YtjbnabjjbofhjaaDoorW.PrintWords

def plainAt (t : List Typ) (k : Int) : Bool := decide (0 ≤ k) && decide (k < t.length) && (decide ((t.getD k.toNat zTyp).kind = 1) || decide ((t.getD k.toNat zTyp).kind = 2) || decide ((t.getD k.toNat zTyp).kind = 3))

set_option maxHeartbeats 400000 in
theorem plainAt_c (t : List Typ) (A : Option Addr) (c : Nat) (k : Int) (w : World) (hA : Kd.C kTyp w A t.length t) :
    Calls Tryd.prog 185 #[.slice A t.length c, .int .i64 k] w fun e w' => e = .returned (.bool (plainAt t k)) ∧ w = w' := by
  by_cases hk : 0 ≤ k ∧ k < t.length
  · obtain ⟨h0, h1⟩ := hk
    obtain ⟨m, rfl⟩ := Int.eq_ofNat_of_zero_le h0
    have hm : m < t.length := by omega
    obtain ⟨ad, A3, c3, rfl, a0, a1, a2, a3, l3, g3⟩ := at_Typ hA m hm
    have hg : t.getD m zTyp = t[m] := by simp [hm]
    have HP : Hid (plainAt t m = (decide (t[m].kind = 1) || decide (t[m].kind = 2) || decide (t[m].kind = 3))) := by
      unfold Hid plainAt
      rw [Int.toNat_natCast, hg]
      simp [hm]
    clear hA hg g3
    generalize t[m] = x at *
    go_enter Tryd.func185, Tryd.ntmps185
    go_wp2
    all_goals (go_ret; refine ⟨ret_bool ?_, rfl⟩; rw [HP.out]; simp_all [beqI])
  · clear hA
    have HP : Hid (plainAt t k = false) := by
      unfold Hid plainAt
      simp only [Bool.and_eq_false_iff, decide_eq_false_iff_not]
      left; omega
    rcases (show k < 0 ∨ (0 ≤ k ∧ (t.length : Int) ≤ k) by omega) with h | ⟨h, h'⟩
    all_goals (
      clear hk
      try have hd : decide (k < (t.length : Int)) = false := decide_eq_false (by omega)
      go_enter Tryd.func185, Tryd.ntmps185
      go_wp2
      go_ret
      exact ⟨ret_bool HP.out.symm, rfl⟩)

theorem bel_take_snoc (l : List Int) (m : Int) (k : Nat) (h : k < l.length) : bel (l.take (k + 1)) m = (bel (l.take k) m && (decide (0 ≤ l[k]) && decide (l[k] < m))) := by
  unfold bel
  rw [take_snoc l k h, List.all_append]
  simp only [List.all_cons, List.all_nil, Bool.and_true]
theorem bel_false (l : List Int) (m : Int) (k : Nat) (h : k < l.length) (hx : l[k] < 0 ∨ m ≤ l[k]) : bel l m = false := by
  rw [Bool.eq_false_iff]
  intro hb
  have := List.all_eq_true.1 hb _ (List.getElem_mem h)
  simp at this
  omega

set_option maxHeartbeats 400000 in
theorem bel_c_177 (l : List Int) (m : Int) (A : Option Addr) (c : Nat) (w : World) (hA : Kd.C (Kd.int .i64) w A l.length l) :
    Calls Tryd.prog 177 #[.slice A l.length c, .int .i64 m] w fun e w' => e = .returned (.bool (bel l m)) ∧ w = w' := by
  have HA := Aside0.mk hA
  have hlen : l.length ≤ 9223372036854775807 := hA.2.1
  clear hA
  go_enter Tryd.func177, Tryd.ntmps177
  go_wp2
  go_loop [5] (fun i => ∃ k : Nat, k ≤ l.length ∧ i = .int .i64 k ∧ Hid (bel (l.take k) m = true)) (fun i => l.length - (intOf i).toNat)
  case atStart => exact ⟨0, by omega, rfl, rfl⟩
  case round =>
    obtain ⟨k, hk, rfl, hb⟩ := hrel
    by_cases hlt : k < l.length
    · obtain ⟨ad, rfl, a0⟩ := at_int HA.out k hlt
      have HS := Aside0.mk (bel_take_snoc l m k hlt)
      have HF := Aside0.mk (bel_false l m k hlt)
      generalize l[k] = x at *
      by_cases hx : x < 0 ∨ m ≤ x
      · have HF' := Aside0.mk (HF.out hx)
        rcases (show x < 0 ∨ (0 ≤ x ∧ m ≤ x) by omega) with h | ⟨h, h'⟩
        all_goals (
          clear hx
          go_wp2
          go_ret
          exact ⟨ret_bool HF'.out.symm, rfl⟩)
      · have h0 : 0 ≤ x := by omega
        have h1 : x < m := by omega
        clear hx
        go_wp2
        go_round
        case rel => exact ⟨k + 1, by omega, by go_num, by unfold Hid; rw [HS.out, hb.out]; simp [h0, h1]⟩
        case measure => simp [intOf]; omega
    · obtain rfl : k = l.length := by omega
      go_wp2
      go_ret
      exact ⟨ret_bool (by have := hb.out; rw [List.take_length] at this; exact this.symm), rfl⟩
set_option maxHeartbeats 400000 in
theorem bel_c_178 (l : List Int) (m : Int) (A : Option Addr) (c : Nat) (w : World) (hA : Kd.C (Kd.int .i64) w A l.length l) :
    Calls Tryd.prog 178 #[.slice A l.length c, .int .i64 m] w fun e w' => e = .returned (.bool (bel l m)) ∧ w = w' := by
  have HA := Aside0.mk hA
  have hlen : l.length ≤ 9223372036854775807 := hA.2.1
  clear hA
  go_enter Tryd.func178, Tryd.ntmps178
  go_wp2
  go_loop [5] (fun i => ∃ k : Nat, k ≤ l.length ∧ i = .int .i64 k ∧ Hid (bel (l.take k) m = true)) (fun i => l.length - (intOf i).toNat)
  case atStart => exact ⟨0, by omega, rfl, rfl⟩
  case round =>
    obtain ⟨k, hk, rfl, hb⟩ := hrel
    by_cases hlt : k < l.length
    · obtain ⟨ad, rfl, a0⟩ := at_int HA.out k hlt
      have HS := Aside0.mk (bel_take_snoc l m k hlt)
      have HF := Aside0.mk (bel_false l m k hlt)
      generalize l[k] = x at *
      by_cases hx : x < 0 ∨ m ≤ x
      · have HF' := Aside0.mk (HF.out hx)
        rcases (show x < 0 ∨ (0 ≤ x ∧ m ≤ x) by omega) with h | ⟨h, h'⟩
        all_goals (
          clear hx
          go_wp2
          go_ret
          exact ⟨ret_bool HF'.out.symm, rfl⟩)
      · have h0 : 0 ≤ x := by omega
        have h1 : x < m := by omega
        clear hx
        go_wp2
        go_round
        case rel => exact ⟨k + 1, by omega, by go_num, by unfold Hid; rw [HS.out, hb.out]; simp [h0, h1]⟩
        case measure => simp [intOf]; omega
    · obtain rfl : k = l.length := by omega
      go_wp2
      go_ret
      exact ⟨ret_bool (by have := hb.out; rw [List.take_length] at this; exact this.symm), rfl⟩

/-- may a function's type be? -/
def mayFn (t : List Typ) (x : Typ) : Bool := x.parts.all (plainAt t) && plainAt t x.elem && decide (x.parts.length ≤ 4) && decide (x.many = 0)
theorem all_take_snoc {α : Type} (p : α → Bool) (l : List α) (k : Nat) (h : k < l.length) : (l.take (k + 1)).all p = ((l.take k).all p && p l[k]) := by
  rw [take_snoc l k h, List.all_append]
  simp only [List.all_cons, List.all_nil, Bool.and_true]
theorem all_false {α : Type} (p : α → Bool) (l : List α) (k : Nat) (h : k < l.length) (hx : p l[k] = false) : l.all p = false := by
  rw [Bool.eq_false_iff]
  intro hb
  have := List.all_eq_true.1 hb _ (List.getElem_mem h)
  rw [hx] at this
  cases this

set_option maxHeartbeats 1000000 in
theorem mayFn_c (t : List Typ) (A : Option Addr) (c : Nat) (x : Typ) (A3 : Option Addr) (c3 : Nat) (w : World) (hA : Kd.C kTyp w A t.length t) (h3 : Kd.C (Kd.int .i64) w A3 x.parts.length x.parts) :
    Calls Tryd.prog 176 #[.slice A t.length c, .agg #[.int .u8 x.kind, .int .i64 x.elem, .int .i64 x.many, .slice A3 x.parts.length c3]] w fun e w' => e = .returned (.bool (mayFn t x)) ∧ Ext w w' := by
  have HA := Aside0.mk hA
  have H3 := Aside0.mk h3
  have hlen : x.parts.length ≤ 9223372036854775807 := h3.2.1
  clear hA h3
  go_enter Tryd.func176, Tryd.ntmps176
  go_wp2
  go_loop [5] (fun i => ∃ k : Nat, k ≤ x.parts.length ∧ i = .int .i64 k ∧ Hid ((x.parts.take k).all (plainAt t) = true)) (fun i => x.parts.length - (intOf i).toNat)
  case atStart => exact ⟨0, by omega, rfl, rfl⟩
  case round =>
    obtain ⟨k, hk, rfl, hb⟩ := hrel
    by_cases hlt : k < x.parts.length
    · obtain ⟨ad, rfl, a0⟩ := at_int H3.out k hlt
      have HS := Aside0.mk (all_take_snoc (plainAt t) x.parts k hlt)
      have HF := Aside0.mk (all_false (plainAt t) x.parts k hlt)
      generalize x.parts[k] = y at *
      cases hy : plainAt t y with
      | false =>
        have HF' := Aside0.mk (show mayFn t x = false by simp [mayFn, HF.out hy])
        go_wp2_with fail
        refine (plainAt_c t A c y _ (Ext.C (by repeat (first | assumption | exact Ext.refl _ | exact Ext.of_xt _ _ | apply Ext.alloc | apply Ext.drewN | apply Ext.drew)) HA.out)).mono ?_
        rintro _ _ ⟨rfl, rfl⟩
        rw [hy]
        go_wp2
        go_ret
        exact ⟨ret_bool HF'.out.symm, (by repeat (first | assumption | exact Ext.refl _ | exact Ext.of_xt _ _ | apply Ext.alloc | apply Ext.drewN | apply Ext.drew))⟩
      | true =>
        have HY := Aside0.mk hy
        clear hy
        go_wp2_with fail
        refine (plainAt_c t A c y _ (Ext.C (by repeat (first | assumption | exact Ext.refl _ | exact Ext.of_xt _ _ | apply Ext.alloc | apply Ext.drewN | apply Ext.drew)) HA.out)).mono ?_
        rintro _ _ ⟨rfl, rfl⟩
        rw [HY.out]
        go_wp2
        go_round
        case rel => exact ⟨k + 1, by omega, by go_num, by unfold Hid; rw [HS.out, hb.out, HY.out]; rfl⟩
        case measure => simp [intOf]; omega
    · obtain rfl : k = x.parts.length := by omega
      have hb' : Hid (mayFn t x = (plainAt t x.elem && decide (x.parts.length ≤ 4) && decide (x.many = 0))) := by
        unfold Hid mayFn
        have := hb.out
        rw [List.take_length] at this
        rw [this]; simp
      clear hb
      go_wp2_with fail
      refine (plainAt_c t A c x.elem _ (Ext.C (by repeat (first | assumption | exact Ext.refl _ | exact Ext.of_xt _ _ | apply Ext.alloc | apply Ext.drewN | apply Ext.drew)) HA.out)).mono ?_
      rintro _ _ ⟨rfl, rfl⟩
      cases hq : plainAt t x.elem with
      | false =>
        have HF := Aside0.mk (show mayFn t x = false from hb'.out.trans (by simp [hq]))
        go_wp2
        go_ret
        exact ⟨ret_bool HF.out.symm, (by repeat (first | assumption | exact Ext.refl _ | exact Ext.of_xt _ _ | apply Ext.alloc | apply Ext.drewN | apply Ext.drew))⟩
      | true =>
        have HF := Aside0.mk (show mayFn t x = (decide (x.parts.length ≤ 4) && decide (x.many = 0)) from hb'.out.trans (by simp [hq]))
        rcases (show decide (x.parts.length ≤ 4) = true ∨ decide (x.parts.length ≤ 4) = false by cases decide (x.parts.length ≤ 4) <;> simp) with h4 | h4
        all_goals (
          go_wp2
          all_goals (go_ret; refine ⟨ret_bool ?_, (by repeat (first | assumption | exact Ext.refl _ | exact Ext.of_xt _ _ | apply Ext.alloc | apply Ext.drewN | apply Ext.drew))⟩; first | (exfalso; simp at h4; omega) | (rw [HF.out]; simp only [h4, beqI, Bool.true_and, Bool.false_and] <;> simp_all [beqI])))

/-- may the type of a number be, but for how many cells it has? -/
def mayR (t : List Typ) (x : Typ) (k : Int) : Bool :=
  if x.kind = 1 then decide (x.elem = 0) && decide (x.many = 0) && decide (x.parts.length = 0)
  else if x.kind = 2 then decide (0 ≤ x.elem) && decide (x.elem < t.length) && decide (x.many = 0) && decide (x.parts.length = 0)
  else if x.kind = 3 then mayFn t x
  else if x.kind = 4 then decide (x.elem = 0) && decide (x.many = 0) && decide (1 ≤ x.parts.length) && decide (x.parts.length ≤ 8) && bel x.parts k
  else if x.kind = 5 then decide (0 ≤ x.elem) && decide (x.elem < k) && decide (1 ≤ x.many) && decide (x.many ≤ 16) && decide (x.parts.length = 0)
  else false

set_option maxRecDepth 100000 in
set_option maxHeartbeats 2000000 in
theorem mayR_c (t : List Typ) (A : Option Addr) (c : Nat) (k : Nat) (hk : k < t.length) (w : World) (hA : Kd.C kTyp w A t.length t) :
    Calls Tryd.prog 168 #[.slice A t.length c, .int .i64 k] w fun e w' => e = .returned (.bool (mayR t t[k] k)) ∧ Ext w w' := by
  have HA := Aside0.mk hA
  obtain ⟨ad, A3, c3, rfl, a0, a1, a2, a3, l3, g3⟩ := at_Typ hA k hk
  clear hA
  generalize hx : t[k] = x at a0 a1 a2 a3 l3 g3 ⊢
  clear hx
  have G3 := Aside0.mk g3
  clear g3
  rcases (show decide (x.parts.length = 0) = true ∨ decide (x.parts.length = 0) = false by cases decide (x.parts.length = 0) <;> simp) with h0 | h0
  all_goals (
    rcases (show decide (x.parts.length ≤ 8) = true ∨ decide (x.parts.length ≤ 8) = false by cases decide (x.parts.length ≤ 8) <;> simp) with h8 | h8)
  all_goals (
    go_enter Tryd.func168, Tryd.ntmps168
    go_wp2_with (go_at_call 177; refine (bel_c_177 _ _ _ _ _ (Ext.C (by repeat (first | assumption | exact Ext.refl _ | exact Ext.of_xt _ _ | apply Ext.alloc | apply Ext.drewN | apply Ext.drew)) G3.out)).mono ?_; rintro _ _ ⟨rfl, rfl⟩)
    all_goals (try (go_ret; refine ⟨ret_bool ?_, (by repeat (first | assumption | exact Ext.refl _ | exact Ext.of_xt _ _ | apply Ext.alloc | apply Ext.drewN | apply Ext.drew))⟩; first | (simp_all [mayR, beqI]; done) | (simp_all [mayR, beqI]; omega)))
    all_goals (
      refine (mayFn_c t _ c x A3 c3 _ (Ext.C (by repeat (first | assumption | exact Ext.refl _ | exact Ext.of_xt _ _ | apply Ext.alloc | apply Ext.drewN | apply Ext.drew)) HA.out) (Ext.C (by repeat (first | assumption | exact Ext.refl _ | exact Ext.of_xt _ _ | apply Ext.alloc | apply Ext.drewN | apply Ext.drew)) G3.out)).mono ?_
      (rintro _ w1 ⟨rfl, hx_⟩; have e_w_w1 : Ext w w1 := Ext.trans (by repeat (first | assumption | exact Ext.refl _ | exact Ext.of_xt _ _ | apply Ext.alloc | apply Ext.drewN | apply Ext.drew)) hx_; clear hx_)
      go_wp2
      (go_ret; refine ⟨ret_bool ?_, (by repeat (first | assumption | exact Ext.refl _ | exact Ext.of_xt _ _ | apply Ext.alloc | apply Ext.drewN | apply Ext.drew))⟩; first | (simp_all [mayR, beqI]; done) | (simp_all [mayR, beqI]; omega))))

/-- the cells of a type, so deep -/
def ofF (t : List Typ) : Nat → Nat → List Int
  | 0, _ => []
  | n + 1, k => if (t.getD k zTyp).kind = 4 then (t.getD k zTyp).parts.flatMap fun p => ofF t n p.toNat
    else if (t.getD k zTyp).kind = 5 then (List.replicate (t.getD k zTyp).many.toNat ()).flatMap fun _ => ofF t n (t.getD k zTyp).elem.toNat
    else [(k : Int)]
def ofR (t : List Typ) (k : Nat) : List Int := ofF t (k + 1) k
/-- the types up to a number may be, but for how many cells they have -/
def Goods (t : List Typ) (k : Nat) : Prop := ∀ i, i ≤ k → mayR t (t.getD i zTyp) i = true
theorem Goods.mono {t : List Typ} {k j : Nat} (h : Goods t k) (hj : j ≤ k) : Goods t j := fun i hi => h i (by omega)
theorem Goods.parts {t : List Typ} {k : Nat} (h : Goods t k) (h4 : (t.getD k zTyp).kind = 4) : (t.getD k zTyp).parts.length ≤ 8 ∧ ∀ p ∈ (t.getD k zTyp).parts, 0 ≤ p ∧ p < (k : Int) := by
  have := h k (Nat.le_refl _)
  unfold mayR at this
  rw [if_neg (by omega), if_neg (by omega), if_neg (by omega), if_pos h4] at this
  simp only [Bool.and_eq_true, decide_eq_true_eq] at this
  refine ⟨this.1.2, fun p hp => ?_⟩
  have hb := List.all_eq_true.1 this.2 p hp
  simpa using hb
theorem Goods.elem {t : List Typ} {k : Nat} (h : Goods t k) (h5 : (t.getD k zTyp).kind = 5) : 0 ≤ (t.getD k zTyp).elem ∧ (t.getD k zTyp).elem < (k : Int) ∧ 1 ≤ (t.getD k zTyp).many ∧ (t.getD k zTyp).many ≤ 16 := by
  have := h k (Nat.le_refl _)
  unfold mayR at this
  rw [if_neg (by omega), if_neg (by omega), if_neg (by omega), if_neg (by omega), if_pos h5] at this
  simp only [Bool.and_eq_true, decide_eq_true_eq] at this
  omega
theorem flatMap_congr_ {α β : Type} {l : List α} {f g : α → List β} (h : ∀ x ∈ l, f x = g x) : l.flatMap f = l.flatMap g := by
  induction l with
  | nil => rfl
  | cons x l ih => rw [List.flatMap_cons, List.flatMap_cons, h x (by simp), ih (fun y hy => h y (by simp [hy]))]
theorem ofF_any (t : List Typ) : ∀ (n m k : Nat), Goods t k → k < n → k < m → ofF t n k = ofF t m k
  | 0, _, _, _, h, _ => absurd h (by omega)
  | _, 0, _, _, _, h => absurd h (by omega)
  | n + 1, m + 1, k, hg, hn, hm => by
    rw [ofF, ofF]
    split
    · rename_i h4
      refine flatMap_congr_ fun p hp => ?_
      have := (hg.parts h4).2 p hp
      exact ofF_any t n m p.toNat (hg.mono (by omega)) (by omega) (by omega)
    · split
      · rename_i h5
        have := hg.elem h5
        refine flatMap_congr_ fun p hp => ?_
        exact ofF_any t n m _ (hg.mono (by omega)) (by omega) (by omega)
      · rfl
theorem ofR_4 {t : List Typ} {k : Nat} (hg : Goods t k) (h4 : (t.getD k zTyp).kind = 4) : ofR t k = (t.getD k zTyp).parts.flatMap fun p => ofR t p.toNat := by
  unfold ofR
  rw [ofF, if_pos h4]
  refine flatMap_congr_ fun p hp => ?_
  have := (hg.parts h4).2 p hp
  exact ofF_any t _ _ p.toNat (hg.mono (by omega)) (by omega) (by omega)
theorem ofR_5 {t : List Typ} {k : Nat} (hg : Goods t k) (h5 : (t.getD k zTyp).kind = 5) : ofR t k = (List.replicate (t.getD k zTyp).many.toNat ()).flatMap fun _ => ofR t (t.getD k zTyp).elem.toNat := by
  unfold ofR
  have := hg.elem h5
  rw [ofF, if_neg (by omega), if_pos h5]
  refine flatMap_congr_ fun p hp => ?_
  exact ofF_any t _ _ _ (hg.mono (by omega)) (by omega) (by omega)
theorem ofR_1 {t : List Typ} {k : Nat} (h4 : (t.getD k zTyp).kind ≠ 4) (h5 : (t.getD k zTyp).kind ≠ 5) : ofR t k = [(k : Int)] := by
  unfold ofR
  rw [ofF, if_neg h4, if_neg h5]
theorem flatMap_take_snoc {α β : Type} (f : α → List β) (l : List α) (k : Nat) (h : k < l.length) : (l.take (k + 1)).flatMap f = (l.take k).flatMap f ++ f l[k] := by
  rw [take_snoc l k h, List.flatMap_append, List.flatMap_cons, List.flatMap_nil, List.append_nil]
theorem flatMap_len_le {α β : Type} (f : α → List β) (m : Nat) : ∀ (l : List α), (∀ x ∈ l, (f x).length ≤ m) → (l.flatMap f).length ≤ l.length * m
  | [], _ => by simp
  | x :: l, h => by
    rw [List.flatMap_cons, List.length_append, List.length_cons, Nat.add_mul, Nat.one_mul]
    have h1 := h x (by simp)
    have h2 := flatMap_len_le f m l (fun y hy => h y (by simp [hy]))
    omega

end Go.Proofs.YtjbnabjjbofhjaaDoor.Fes
