/- Package types: what each function answers, by plain Lean functions. -/
import Derived.Test.YtjbnabjjbofhjaaDoorOwn
set_option linter.unusedVariables false
set_option linter.unusedSimpArgs false
namespace Go.Proofs.YtjbnabjjbofhjaaDoor.Fes
open Go.RowKit Go.Proofs.YtjbnabjjbofhjaaDoorW.PrintWords

def plainT (x : Typ) : Bool :=
  if x.kind = 1 then (decide (x.elem = 0) && decide (x.many = 0) && decide (x.parts.length = 0))
  else if x.kind = 2 then (decide (x.many = 0) && decide (x.parts.length = 0))
  else if x.kind = 4 then (decide (x.elem = 0) && decide (x.many = 0))
  else if x.kind = 3 then decide (x.many = 0)
  else if x.kind = 5 then decide (x.parts.length = 0)
  else true

set_option maxHeartbeats 400000 in
theorem plainT_c (x : Typ) (A : Option Addr) (c : Nat) (w : World) :
    Calls Tryd.prog 158 #[.agg #[.int .u8 x.kind, .int .i64 x.elem, .int .i64 x.many, .slice A x.parts.length c]] w fun e w' => e = .returned (.bool (plainT x)) ∧ Ext w w' := by
  go_enter Tryd.func158, Tryd.ntmps158
  go_wp2
  all_goals (try (go_quiet (fail); go_wp2))
  all_goals (go_ret; refine ⟨ret_bool ?_, (by repeat (first | assumption | exact Ext.refl _ | exact Ext.of_xt _ _ | apply Ext.alloc | apply Ext.drewN | apply Ext.drew))⟩; first | (simp_all [plainT, beqI]; done) | (simp_all [plainT, beqI]; omega))

def scalarT (x : Typ) : Bool := decide (1 ≤ x.kind) && decide (x.kind ≤ 3)

set_option maxHeartbeats 400000 in
theorem scalarT_c (x : Typ) (A : Option Addr) (c n : Nat) (w : World) :
    Calls Tryd.prog 162 #[.agg #[.int .u8 x.kind, .int .i64 x.elem, .int .i64 x.many, .slice A n c]] w fun e w' => e = .returned (.bool (scalarT x)) ∧ Ext w w' := by
  go_enter Tryd.func162, Tryd.ntmps162
  go_wp2
  all_goals (go_ret; refine ⟨ret_bool ?_, (by repeat (first | assumption | exact Ext.refl _ | exact Ext.of_xt _ _ | apply Ext.alloc | apply Ext.drewN | apply Ext.drew))⟩; first | (simp_all [scalarT, beqI]; done) | (simp_all [scalarT, beqI]; omega))

def isum : List Int → Int
  | [] => 0
  | x :: l => x + isum l
theorem isum_snoc (l : List Int) (x : Int) : isum (l ++ [x]) = isum l + x := by
  induction l with
  | nil => simp [isum]
  | cons y l ih => simp only [List.cons_append, isum, ih]; omega
theorem isum_bd (m : Int) (hm : 0 ≤ m) : ∀ (l : List Int), (∀ x ∈ l, 0 ≤ x ∧ x ≤ m) → 0 ≤ isum l ∧ isum l ≤ l.length * m := by
  intro l
  induction l with
  | nil => intro _; simp [isum]
  | cons x l ih =>
    intro h
    have h1 := ih (fun y hy => h y (by simp [hy]))
    have h2 := h x (by simp)
    rw [isum, List.length_cons]
    have : ((l.length + 1 : Nat) : Int) * m = l.length * m + m := by push_cast; rw [Int.add_mul, Int.one_mul]
    omega
theorem take_snoc {α : Type} (l : List α) (k : Nat) (h : k < l.length) : l.take (k + 1) = l.take k ++ [l[k]] := by rw [List.take_succ_eq_append_getElem h]

set_option maxHeartbeats 400000 in
theorem isum_c (l : List Int) (A : Option Addr) (c : Nat) (w : World) (hA : Kd.C (Kd.int .i64) w A l.length l) (hl : l.length ≤ 1000) (hb : ∀ x ∈ l, 0 ≤ x ∧ x ≤ 1000) :
    Calls Tryd.prog 163 #[.slice A l.length c] w fun e w' => e = .returned (.int .i64 (isum l)) ∧ Ext w w' := by
  have HA := Aside0.mk hA
  have HB := Aside0.mk hb
  clear hA hb
  go_enter Tryd.func163, Tryd.ntmps163
  go_wp2
  go_loopw [2, 7] (fun s i wr => ∃ k : Nat, k ≤ l.length ∧ i = .int .i64 k ∧ s = .int .i64 (isum (l.take k)) ∧ Ext w wr) (fun _ i _ => l.length - (intOf i).toNat)
  case atStart => exact ⟨0, by omega, rfl, rfl, Ext.refl _⟩
  case round =>
    obtain ⟨k, hk, rfl, rfl, hx⟩ := hrel
    by_cases hlt : k < l.length
    · obtain ⟨ad, rfl, a0⟩ := at_int (hx.C HA.out) k hlt
      have hs := isum_bd 1000 (by omega) (l.take k) (fun y hy => HB.out y (List.mem_of_mem_take hy))
      have hsl : (l.take k).length ≤ 1000 := by rw [List.length_take]; omega
      have hy := HB.out l[k] (List.getElem_mem hlt)
      have HS := Aside0.mk (isum_snoc (l.take k) l[k])
      have HT := Aside0.mk (take_snoc l k hlt)
      obtain ⟨s, hs'⟩ : ∃ s, s = isum (l.take k) := ⟨_, rfl⟩
      rw [← hs'] at hs HS ⊢
      have HS' := Aside0.mk hs'
      clear hs'
      have h1 : 0 ≤ s := hs.1
      have h2 : s ≤ 1000000 := by omega
      clear hs
      go_wp2
      go_roundw
      case rel => exact ⟨k + 1, by omega, by go_num, by rw [HT.out, HS.out], hx⟩
      case measure => simp [intOf]; omega
    · go_wp2
      go_ret
      exact ⟨ret_int (by rw [List.take_of_length_le (by omega)]), hx⟩

/-- are all numbers from 0 on, below one? -/
def bel (l : List Int) (m : Int) : Bool := l.all fun x => decide (0 ≤ x) && decide (x < m)
def outOf (m x : Int) : Bool := decide (x < 0) || decide (m ≤ x)
theorem bel_any (l : List Int) (m : Int) : (!l.any (outOf m)) = bel l m := by
  rw [bel, List.not_any_eq_all_not]
  congr 1
  funext x
  simp only [outOf, Bool.not_or, ← decide_not]
  congr 1 <;> (congr 1; simp)

set_option maxHeartbeats 400000 in
theorem there1_c (m x : Int) (B : Nat) (w : World) (hc : ∀ W, Ext w W → W.cell? ⟨B, 0, none⟩ = some (.int .i64 m)) :
    Calls Tryd.prog 173 #[.int .i64 x, .pointer (some ⟨B, 0, none⟩)] w fun e w' => e = .returned (.bool (outOf m x)) ∧ Ext w w' := by
  go_enter Tryd.func173, Tryd.ntmps173
  go_wp2
  all_goals (go_ret; refine ⟨ret_bool ?_, (by repeat (first | assumption | exact Ext.refl _ | exact Ext.of_xt _ _ | apply Ext.alloc | apply Ext.drewN | apply Ext.drew))⟩; first | (simp_all [outOf, beqI]; done) | (simp_all [outOf, beqI]; omega))

set_option maxHeartbeats 400000 in
theorem there_c (m : Int) (l : List Int) (A : Option Addr) (c : Nat) (w : World) (hA : Kd.C (Kd.int .i64) w A l.length l) :
    Calls Tryd.prog 159 #[.int .i64 m, .slice A l.length c] w fun e w' => e = .returned (.bool (bel l m)) ∧ Ext w w' := by
  have HA := Aside0.mk hA
  clear hA
  have hmf : ∀ (fn : Fn) (first cap : Array Value) (w : World), (Instr.makeFunc fn first cap).run Tryd.prog w = .ok (.func fn first cap) w := fun _ _ _ _ => rfl
  go_enter Tryd.func159, Tryd.ntmps159
  go_wp2_with fail
  refine (hasI_c 173 _ (enters_of Tryd.func173 (by kernel_rfl) rfl) (outOf m) A c l _ (Ext.C (by repeat (first | assumption | exact Ext.refl _ | exact Ext.of_xt _ _ | apply Ext.alloc | apply Ext.drewN | apply Ext.drew)) HA.out) ?_).mono ?_
  · intro W x cs _ hW hK
    obtain rfl : cs = [.int .i64 x] := hK
    exact there1_c m x _ W (fun W' hW' => (hW.trans hW').cell (by simp))
  · rintro e w1 ⟨rfl, h1⟩
    go_wp2
    go_ret
    exact ⟨ret_bool (bel_any l m), Ext.trans (by repeat (first | assumption | exact Ext.refl _ | exact Ext.of_xt _ _ | apply Ext.alloc | apply Ext.drewN | apply Ext.drew)) h1⟩



/-- is the type of a number no scalar's, in a table? -/
def noScalarAt (t : List Typ) (n : Int) : Bool := !(scalarT (t.getD n.toNat zTyp))

set_option maxHeartbeats 400000 in
theorem may1_c (t : List Typ) (A : Option Addr) (c : Nat) (n : Int) (B : Nat) (w : World) (hA : Kd.C kTyp w A t.length t) (h0 : 0 ≤ n) (h1 : n < t.length)
    (hc : ∀ W, Ext w W → W.cell? ⟨B, 0, none⟩ = some (.slice A t.length c)) :
    Calls Tryd.prog 161 #[.int .i64 n, .pointer (some ⟨B, 0, none⟩)] w fun e w' => e = .returned (.bool (noScalarAt t n)) ∧ Ext w w' := by
  obtain ⟨m, rfl⟩ := Int.eq_ofNat_of_zero_le h0
  have hm : m < t.length := by omega
  obtain ⟨ad, A3, c3, rfl, a0, a1, a2, a3, l3, g3⟩ := at_Typ hA m hm
  clear hA
  go_enter Tryd.func161, Tryd.ntmps161
  go_wp2_with fail
  refine (scalarT_c t[m] A3 c3 _ _).mono ?_
  rintro e w1 ⟨rfl, hx⟩
  go_wp2
  go_ret
  exact ⟨ret_bool (by simp [noScalarAt, hm]), hx⟩

/-- what 'may' answers of a type: how many cells, and whether it may be. -/
def mayT (t : List Typ) (x : Typ) (k : Int) (sizes : List Int) : Int × Bool :=
  if x.kind = 1 then (1, plainT x)
  else if x.kind = 2 then (1, plainT x && bel [x.elem] t.length)
  else if x.kind = 3 then (1, plainT x && decide (x.parts.length ≤ 4) && bel (x.elem :: x.parts) t.length && !(x.elem :: x.parts).any (noScalarAt t))
  else if x.kind = 4 then
    if plainT x && bel x.parts k then
      (isum (x.parts.map fun n => sizes.getD n.toNat 0), decide (0 < x.parts.length) && decide (x.parts.length ≤ 8) && decide (isum (x.parts.map fun n => sizes.getD n.toNat 0) ≤ 32))
    else (0, false)
  else if x.kind = 5 then
    if plainT x && bel [x.elem] k && decide (1 ≤ x.many) && decide (x.many ≤ 16) then (x.many * sizes.getD x.elem.toNat 0, decide (x.many * sizes.getD x.elem.toNat 0 ≤ 32))
    else (0, false)
  else (1, false)

def tup (r : Int × Bool) : Value := .tuple #[.int .i64 r.1, .bool r.2]
theorem ret_tup {a : Int} {c : Bool} {r : Int × Bool} (h : r = (a, c)) : Ending.returned (.tuple #[.int .i64 a, .bool c]) = .returned (tup r) := by cases h; rfl

section
variable (t : List Typ) (A : Option Addr) (c : Nat) (k : Nat) (sizes : List Int) (S : Option Addr) (d : Nat) (w : World) (hA : Kd.C kTyp w A t.length t) (hk : k < t.length) (hS : Kd.C (Kd.int .i64) w S sizes.length sizes)
set_option maxHeartbeats 1000000 in
include hA hS in
theorem may_c1 (h1 : t[k].kind = 1 ∨ t[k].kind = 2) :
    Calls Tryd.prog 139 #[.slice A t.length c, .int .i64 k, .slice S sizes.length d] w fun e w' => e = .returned (tup (mayT t t[k] k sizes)) ∧ Ext w w' := by
  have HA := Aside0.mk hA
  have HS := Aside0.mk hS
  obtain ⟨ad, A3, c3, rfl, a0, a1, a2, a3, l3, g3⟩ := at_Typ hA k hk
  clear hA hS
  generalize hx : t[k] = x at a0 a1 a2 a3 l3 g3 h1 ⊢
  clear hx
  have G3 := Aside0.mk g3
  clear g3
  rcases h1 with h1 | h1
  · have e1 : (x.kind == 1) = true := by simp [h1]
    have H1 := Aside0.mk h1
    clear h1
    go_enter Tryd.func139, Tryd.ntmps139
    go_wp2_with fail
    refine (plainT_c x A3 c3 _).mono ?_
    (rintro _ w1 ⟨rfl, hx_⟩; have e_w_w1 : Ext w w1 := Ext.trans (by repeat (first | assumption | exact Ext.refl _ | exact Ext.of_xt _ _ | apply Ext.alloc | apply Ext.drewN | apply Ext.drew)) hx_; have b_w1_0_0 := stays (hx_.cell (a := ⟨w.heap.size, 0, none⟩) (by first | (go_simp; rfl) | rfl)); have b_w1_1_0 := stays (hx_.cell (a := ⟨w.heap.size + 1, 0, none⟩) (by first | (go_simp; rfl) | rfl)); have b_w1_1_1 := stays (hx_.cell (a := ⟨w.heap.size + 1, 1, none⟩) (by first | (go_simp; rfl) | rfl)); have b_w1_1_2 := stays (hx_.cell (a := ⟨w.heap.size + 1, 2, none⟩) (by first | (go_simp; rfl) | rfl)); have b_w1_1_3 := stays (hx_.cell (a := ⟨w.heap.size + 1, 3, none⟩) (by first | (go_simp; rfl) | rfl)); clear hx_)
    cases hp : plainT x with
    | true =>
      go_wp2
      go_ret2
      exact ⟨ret_tup (by simp [mayT, H1.out, hp]), (by repeat (first | assumption | exact Ext.refl _ | exact Ext.of_xt _ _ | apply Ext.alloc | apply Ext.drewN | apply Ext.drew))⟩
    | false =>
      go_wp2
      go_ret2
      exact ⟨ret_tup (by simp [mayT, H1.out, hp]), (by repeat (first | assumption | exact Ext.refl _ | exact Ext.of_xt _ _ | apply Ext.alloc | apply Ext.drewN | apply Ext.drew))⟩
  · have e1 : (x.kind == 1) = false := by simp [h1]
    have e2 : (x.kind == 2) = true := by simp [h1]
    have H1 := Aside0.mk h1
    clear h1
    go_enter Tryd.func139, Tryd.ntmps139
    go_wp2_with fail
    refine (plainT_c x A3 c3 _).mono ?_
    (rintro _ w1 ⟨rfl, hx_⟩; have e_w_w1 : Ext w w1 := Ext.trans (by repeat (first | assumption | exact Ext.refl _ | exact Ext.of_xt _ _ | apply Ext.alloc | apply Ext.drewN | apply Ext.drew)) hx_; have b_w1_0_0 := stays (hx_.cell (a := ⟨w.heap.size, 0, none⟩) (by first | (go_simp; rfl) | rfl)); have b_w1_1_0 := stays (hx_.cell (a := ⟨w.heap.size + 1, 0, none⟩) (by first | (go_simp; rfl) | rfl)); have b_w1_1_1 := stays (hx_.cell (a := ⟨w.heap.size + 1, 1, none⟩) (by first | (go_simp; rfl) | rfl)); have b_w1_1_2 := stays (hx_.cell (a := ⟨w.heap.size + 1, 2, none⟩) (by first | (go_simp; rfl) | rfl)); have b_w1_1_3 := stays (hx_.cell (a := ⟨w.heap.size + 1, 3, none⟩) (by first | (go_simp; rfl) | rfl)); clear hx_)
    cases hp : plainT x with
    | true =>
      go_wp2_with fail
      refine (there_c t.length [x.elem] _ 1 _ (C_litI [x.elem] (by simp) (by simp) _)).mono ?_
      (rintro _ w2 ⟨rfl, hx_⟩; have e_w_w2 : Ext w w2 := Ext.trans (by repeat (first | assumption | exact Ext.refl _ | exact Ext.of_xt _ _ | apply Ext.alloc | apply Ext.drewN | apply Ext.drew)) hx_; have e_w1_w2 : Ext w1 w2 := Ext.trans (by repeat (first | assumption | exact Ext.refl _ | exact Ext.of_xt _ _ | apply Ext.alloc | apply Ext.drewN | apply Ext.drew)) hx_; clear hx_)
      cases hq : bel [x.elem] t.length with
      | true =>
        go_wp2
        go_ret2
        exact ⟨ret_tup (by simp [mayT, H1.out, hp, hq]), (by repeat (first | assumption | exact Ext.refl _ | exact Ext.of_xt _ _ | apply Ext.alloc | apply Ext.drewN | apply Ext.drew))⟩
      | false =>
        go_wp2
        go_ret2
        exact ⟨ret_tup (by simp [mayT, H1.out, hp, hq]), (by repeat (first | assumption | exact Ext.refl _ | exact Ext.of_xt _ _ | apply Ext.alloc | apply Ext.drewN | apply Ext.drew))⟩
    | false =>
      go_wp2
      go_ret2
      exact ⟨ret_tup (by simp [mayT, H1.out, hp]), (by repeat (first | assumption | exact Ext.refl _ | exact Ext.of_xt _ _ | apply Ext.alloc | apply Ext.drewN | apply Ext.drew))⟩

set_option maxHeartbeats 1000000 in
include hA hS in
theorem may_c3 (h1 : t[k].kind = 3) (hp20 : t[k].parts.length ≤ 1000) :
    Calls Tryd.prog 139 #[.slice A t.length c, .int .i64 k, .slice S sizes.length d] w fun e w' => e = .returned (tup (mayT t t[k] k sizes)) ∧ Ext w w' := by
  have hmf : ∀ (fn : Go.Fn) (first cap : Array Value) (w : World), (Instr.makeFunc fn first cap).run Tryd.prog w = .ok (.func fn first cap) w := fun _ _ _ _ => rfl
  have HA := Aside0.mk hA
  have HS := Aside0.mk hS
  obtain ⟨ad, A3, c3, rfl, a0, a1, a2, a3, l3, g3⟩ := at_Typ hA k hk
  clear hA hS
  generalize hx : t[k] = x at a0 a1 a2 a3 l3 g3 h1 hp20 ⊢
  clear hx
  have G3 := Aside0.mk g3
  clear g3
  have e1 : (x.kind == 1) = false := by simp [h1]
  have e2 : (x.kind == 2) = false := by simp [h1]
  have e3 : (x.kind == 3) = true := by simp [h1]
  have H1 := Aside0.mk h1
  clear h1
  cases hp : plainT x with
  | false =>
    have HF : Hid (mayT t x k sizes = (1, false)) := by unfold Hid; simp [mayT, H1.out, hp]
    go_enter Tryd.func139, Tryd.ntmps139
    go_wp2_with fail
    refine (plainT_c x A3 c3 _).mono ?_
    (rintro _ w1 ⟨rfl, hx_⟩; have e_w_w1 : Ext w w1 := Ext.trans (by repeat (first | assumption | exact Ext.refl _ | exact Ext.of_xt _ _ | apply Ext.alloc | apply Ext.drewN | apply Ext.drew)) hx_; have b_w1_0_0 := stays (hx_.cell (a := ⟨w.heap.size, 0, none⟩) (by first | (go_simp; rfl) | rfl)); have b_w1_1_0 := stays (hx_.cell (a := ⟨w.heap.size + 1, 0, none⟩) (by first | (go_simp; rfl) | rfl)); have b_w1_1_1 := stays (hx_.cell (a := ⟨w.heap.size + 1, 1, none⟩) (by first | (go_simp; rfl) | rfl)); have b_w1_1_2 := stays (hx_.cell (a := ⟨w.heap.size + 1, 2, none⟩) (by first | (go_simp; rfl) | rfl)); have b_w1_1_3 := stays (hx_.cell (a := ⟨w.heap.size + 1, 3, none⟩) (by first | (go_simp; rfl) | rfl)); clear hx_)
    rw [hp]
    go_wp2_with (at_builtin; refine app_ints rfl rfl rfl rfl (OwnI.lit (Ext.refl w1) [x.elem] (by simp)) (Ext.C (by repeat (first | assumption | exact Ext.refl _ | exact Ext.of_xt _ _ | apply Ext.alloc | apply Ext.drewN | apply Ext.drew)) G3.out) (by repeat (first | assumption | exact Ext.refl _ | exact Ext.of_xt _ _ | apply Ext.alloc | apply Ext.drewN | apply Ext.drew)) (by simp; omega) ?_; intro v1 w2 hv1 hw1 _ _; have e_w_w2 : Ext w w2 := Ext.trans (by repeat (first | assumption | exact Ext.refl _ | exact Ext.of_xt _ _ | apply Ext.alloc | apply Ext.drewN | apply Ext.drew)) hw1; have e_w1_w2 : Ext w1 w2 := hw1; clear hw1 hv1)
    go_ret2
    exact ⟨ret_tup HF.out, (by repeat (first | assumption | exact Ext.refl _ | exact Ext.of_xt _ _ | apply Ext.alloc | apply Ext.drewN | apply Ext.drew))⟩
  | true =>
    go_enter Tryd.func139, Tryd.ntmps139
    go_wp2_with fail
    refine (plainT_c x A3 c3 _).mono ?_
    (rintro _ w1 ⟨rfl, hx_⟩; have e_w_w1 : Ext w w1 := Ext.trans (by repeat (first | assumption | exact Ext.refl _ | exact Ext.of_xt _ _ | apply Ext.alloc | apply Ext.drewN | apply Ext.drew)) hx_; have b_w1_0_0 := stays (hx_.cell (a := ⟨w.heap.size, 0, none⟩) (by first | (go_simp; rfl) | rfl)); have b_w1_1_0 := stays (hx_.cell (a := ⟨w.heap.size + 1, 0, none⟩) (by first | (go_simp; rfl) | rfl)); have b_w1_1_1 := stays (hx_.cell (a := ⟨w.heap.size + 1, 1, none⟩) (by first | (go_simp; rfl) | rfl)); have b_w1_1_2 := stays (hx_.cell (a := ⟨w.heap.size + 1, 2, none⟩) (by first | (go_simp; rfl) | rfl)); have b_w1_1_3 := stays (hx_.cell (a := ⟨w.heap.size + 1, 3, none⟩) (by first | (go_simp; rfl) | rfl)); clear hx_)
    rw [hp]
    by_cases h4 : x.parts.length ≤ 4
    · have h4' : decide (x.parts.length ≤ 4) = true := by simpa using h4
      go_wp2_with (at_builtin; refine app_ints rfl rfl rfl rfl (OwnI.lit (Ext.refl w1) [x.elem] (by simp)) (Ext.C (by repeat (first | assumption | exact Ext.refl _ | exact Ext.of_xt _ _ | apply Ext.alloc | apply Ext.drewN | apply Ext.drew)) G3.out) (by repeat (first | assumption | exact Ext.refl _ | exact Ext.of_xt _ _ | apply Ext.alloc | apply Ext.drewN | apply Ext.drew)) (by simp; omega) ?_; intro v1 w2 hv1 hw1 _ _; obtain ⟨gA, gc, rfl, hgl, hgC⟩ := hv1.reads; have e_w_w2 : Ext w w2 := Ext.trans (by repeat (first | assumption | exact Ext.refl _ | exact Ext.of_xt _ _ | apply Ext.alloc | apply Ext.drewN | apply Ext.drew)) hw1; have e_w1_w2 : Ext w1 w2 := hw1; clear hw1 hv1)
      refine (there_c t.length (x.elem :: x.parts) _ _ _ (Ext.C (by repeat (first | assumption | exact Ext.refl _ | exact Ext.of_xt _ _ | apply Ext.alloc | apply Ext.drewN | apply Ext.drew)) hgC)).mono ?_
      (rintro _ w3 ⟨rfl, hx_⟩; have e_w_w3 : Ext w w3 := Ext.trans (by repeat (first | assumption | exact Ext.refl _ | exact Ext.of_xt _ _ | apply Ext.alloc | apply Ext.drewN | apply Ext.drew)) hx_; have e_w1_w3 : Ext w1 w3 := Ext.trans (by repeat (first | assumption | exact Ext.refl _ | exact Ext.of_xt _ _ | apply Ext.alloc | apply Ext.drewN | apply Ext.drew)) hx_; have e_w2_w3 : Ext w2 w3 := Ext.trans (by repeat (first | assumption | exact Ext.refl _ | exact Ext.of_xt _ _ | apply Ext.alloc | apply Ext.drewN | apply Ext.drew)) hx_; clear hx_)
      cases hq : bel (x.elem :: x.parts) t.length with
      | true =>
        go_wp2_with fail
        refine (hasI_c 161 _ (enters_of Tryd.func161 (by kernel_rfl) rfl) (noScalarAt t) _ _ (x.elem :: x.parts) _ (Ext.C (by repeat (first | assumption | exact Ext.refl _ | exact Ext.of_xt _ _ | apply Ext.alloc | apply Ext.drewN | apply Ext.drew)) hgC) ?_).mono ?_
        · intro W y cs hy hW hK
          obtain rfl : cs = [.int .i64 y] := hK
          have hb := List.all_eq_true.1 hq y hy
          simp only [Bool.and_eq_true, decide_eq_true_eq] at hb
          exact may1_c t _ c y _ W (Ext.C (Ext.trans (by repeat (first | assumption | exact Ext.refl _ | exact Ext.of_xt _ _ | apply Ext.alloc | apply Ext.drewN | apply Ext.drew)) hW) HA.out) hb.1 hb.2 (fun W' hW' => (hW.trans hW').cell (by go_simp))
        · (rintro _ w4 ⟨rfl, hx_⟩; have e_w_w4 : Ext w w4 := Ext.trans (by repeat (first | assumption | exact Ext.refl _ | exact Ext.of_xt _ _ | apply Ext.alloc | apply Ext.drewN | apply Ext.drew)) hx_; have e_w1_w4 : Ext w1 w4 := Ext.trans (by repeat (first | assumption | exact Ext.refl _ | exact Ext.of_xt _ _ | apply Ext.alloc | apply Ext.drewN | apply Ext.drew)) hx_; clear hx_)
          cases hn : (x.elem :: x.parts).any (noScalarAt t) with
          | true =>
            go_wp2
            go_ret2
            exact ⟨ret_tup (by simp only [mayT, H1.out, hp, hq, hn, h4']; rfl), (by repeat (first | assumption | exact Ext.refl _ | exact Ext.of_xt _ _ | apply Ext.alloc | apply Ext.drewN | apply Ext.drew))⟩
          | false =>
            go_wp2
            go_ret2
            exact ⟨ret_tup (by simp only [mayT, H1.out, hp, hq, hn, h4']; rfl), (by repeat (first | assumption | exact Ext.refl _ | exact Ext.of_xt _ _ | apply Ext.alloc | apply Ext.drewN | apply Ext.drew))⟩
      | false =>
        go_wp2
        go_ret2
        exact ⟨ret_tup (by simp only [mayT, H1.out, hp, hq, h4']; rfl), (by repeat (first | assumption | exact Ext.refl _ | exact Ext.of_xt _ _ | apply Ext.alloc | apply Ext.drewN | apply Ext.drew))⟩
    · have h4' : decide (x.parts.length ≤ 4) = false := by simpa using h4
      go_wp2_with (at_builtin; refine app_ints rfl rfl rfl rfl (OwnI.lit (Ext.refl w1) [x.elem] (by simp)) (Ext.C (by repeat (first | assumption | exact Ext.refl _ | exact Ext.of_xt _ _ | apply Ext.alloc | apply Ext.drewN | apply Ext.drew)) G3.out) (by repeat (first | assumption | exact Ext.refl _ | exact Ext.of_xt _ _ | apply Ext.alloc | apply Ext.drewN | apply Ext.drew)) (by simp; omega) ?_; intro v1 w2 hv1 hw1 _ _; obtain ⟨gA, gc, rfl, hgl, hgC⟩ := hv1.reads; have e_w_w2 : Ext w w2 := Ext.trans (by repeat (first | assumption | exact Ext.refl _ | exact Ext.of_xt _ _ | apply Ext.alloc | apply Ext.drewN | apply Ext.drew)) hw1; have e_w1_w2 : Ext w1 w2 := hw1; clear hw1 hv1)
      go_ret2
      exact ⟨ret_tup (by simp only [mayT, H1.out, hp, h4']; rfl), (by repeat (first | assumption | exact Ext.refl _ | exact Ext.of_xt _ _ | apply Ext.alloc | apply Ext.drewN | apply Ext.drew))⟩

set_option maxHeartbeats 1000000 in
include hA hS in
theorem may_c4 (h1 : t[k].kind = 4) (hp20 : t[k].parts.length ≤ 1000) (hsl : sizes.length = k) (hsb : ∀ x ∈ sizes, 0 ≤ x ∧ x ≤ 1000) :
    Calls Tryd.prog 139 #[.slice A t.length c, .int .i64 k, .slice S sizes.length d] w fun e w' => e = .returned (tup (mayT t t[k] k sizes)) ∧ Ext w w' := by
  have HA := Aside0.mk hA
  have HS := Aside0.mk hS
  have HSB := Aside0.mk hsb
  obtain ⟨ad, A3, c3, rfl, a0, a1, a2, a3, l3, g3⟩ := at_Typ hA k hk
  clear hA hS hsb
  generalize hx : t[k] = x at a0 a1 a2 a3 l3 g3 h1 hp20 ⊢
  clear hx
  have G3 := Aside0.mk g3
  clear g3
  have e1 : (x.kind == 1) = false := by simp [h1]
  have e2 : (x.kind == 2) = false := by simp [h1]
  have e3 : (x.kind == 3) = false := by simp [h1]
  have e4 : (x.kind == 4) = true := by simp [h1]
  have H1 := Aside0.mk h1
  clear h1
  cases hp : plainT x with
  | false =>
    have HF : Hid (mayT t x k sizes = (0, false)) := by unfold Hid; simp [mayT, H1.out, hp]
    go_enter Tryd.func139, Tryd.ntmps139
    go_wp2_with fail
    refine (plainT_c x A3 c3 _).mono ?_
    (rintro _ w1 ⟨rfl, hx_⟩; have e_w_w1 : Ext w w1 := Ext.trans (by repeat (first | assumption | exact Ext.refl _ | exact Ext.of_xt _ _ | apply Ext.alloc | apply Ext.drewN | apply Ext.drew)) hx_; have b_w1_0_0 := stays (hx_.cell (a := ⟨w.heap.size, 0, none⟩) (by first | (go_simp; rfl) | rfl)); have b_w1_1_0 := stays (hx_.cell (a := ⟨w.heap.size + 1, 0, none⟩) (by first | (go_simp; rfl) | rfl)); have b_w1_1_1 := stays (hx_.cell (a := ⟨w.heap.size + 1, 1, none⟩) (by first | (go_simp; rfl) | rfl)); have b_w1_1_2 := stays (hx_.cell (a := ⟨w.heap.size + 1, 2, none⟩) (by first | (go_simp; rfl) | rfl)); have b_w1_1_3 := stays (hx_.cell (a := ⟨w.heap.size + 1, 3, none⟩) (by first | (go_simp; rfl) | rfl)); clear hx_)
    rw [hp]
    go_wp2
    go_ret2
    exact ⟨ret_tup HF.out, (by repeat (first | assumption | exact Ext.refl _ | exact Ext.of_xt _ _ | apply Ext.alloc | apply Ext.drewN | apply Ext.drew))⟩
  | true =>
    cases hq : bel x.parts k with
    | false =>
      have HF : Hid (mayT t x k sizes = (0, false)) := by unfold Hid; simp [mayT, H1.out, hp, hq]
      go_enter Tryd.func139, Tryd.ntmps139
      go_wp2_with fail
      refine (plainT_c x A3 c3 _).mono ?_
      (rintro _ w1 ⟨rfl, hx_⟩; have e_w_w1 : Ext w w1 := Ext.trans (by repeat (first | assumption | exact Ext.refl _ | exact Ext.of_xt _ _ | apply Ext.alloc | apply Ext.drewN | apply Ext.drew)) hx_; have b_w1_0_0 := stays (hx_.cell (a := ⟨w.heap.size, 0, none⟩) (by first | (go_simp; rfl) | rfl)); have b_w1_1_0 := stays (hx_.cell (a := ⟨w.heap.size + 1, 0, none⟩) (by first | (go_simp; rfl) | rfl)); have b_w1_1_1 := stays (hx_.cell (a := ⟨w.heap.size + 1, 1, none⟩) (by first | (go_simp; rfl) | rfl)); have b_w1_1_2 := stays (hx_.cell (a := ⟨w.heap.size + 1, 2, none⟩) (by first | (go_simp; rfl) | rfl)); have b_w1_1_3 := stays (hx_.cell (a := ⟨w.heap.size + 1, 3, none⟩) (by first | (go_simp; rfl) | rfl)); clear hx_)
      rw [hp]
      go_wp2_with fail
      refine (there_c k x.parts _ _ _ (Ext.C (by repeat (first | assumption | exact Ext.refl _ | exact Ext.of_xt _ _ | apply Ext.alloc | apply Ext.drewN | apply Ext.drew)) G3.out)).mono ?_
      (rintro _ w2 ⟨rfl, hx_⟩; have e_w_w2 : Ext w w2 := Ext.trans (by repeat (first | assumption | exact Ext.refl _ | exact Ext.of_xt _ _ | apply Ext.alloc | apply Ext.drewN | apply Ext.drew)) hx_; have e_w1_w2 : Ext w1 w2 := Ext.trans (by repeat (first | assumption | exact Ext.refl _ | exact Ext.of_xt _ _ | apply Ext.alloc | apply Ext.drewN | apply Ext.drew)) hx_; clear hx_)
      rw [hq]
      go_wp2
      go_ret2
      exact ⟨ret_tup HF.out, (by repeat (first | assumption | exact Ext.refl _ | exact Ext.of_xt _ _ | apply Ext.alloc | apply Ext.drewN | apply Ext.drew))⟩
    | true =>
      have HF : Hid (mayT t x k sizes = (isum (x.parts.map fun n => sizes.getD n.toNat 0), decide (0 < x.parts.length) && decide (x.parts.length ≤ 8) && decide (isum (x.parts.map fun n => sizes.getD n.toNat 0) ≤ 32))) := by
        unfold Hid; simp only [mayT, H1.out, hp, hq]; rfl
      have HQ := Aside0.mk hq
      have HSL := Aside0.mk hsl
      clear hq hsl
      go_enter Tryd.func139, Tryd.ntmps139
      go_wp2_with fail
      refine (plainT_c x A3 c3 _).mono ?_
      (rintro _ w1 ⟨rfl, hx_⟩; have e_w_w1 : Ext w w1 := Ext.trans (by repeat (first | assumption | exact Ext.refl _ | exact Ext.of_xt _ _ | apply Ext.alloc | apply Ext.drewN | apply Ext.drew)) hx_; have b_w1_0_0 := stays (hx_.cell (a := ⟨w.heap.size, 0, none⟩) (by first | (go_simp; rfl) | rfl)); have b_w1_1_0 := stays (hx_.cell (a := ⟨w.heap.size + 1, 0, none⟩) (by first | (go_simp; rfl) | rfl)); have b_w1_1_1 := stays (hx_.cell (a := ⟨w.heap.size + 1, 1, none⟩) (by first | (go_simp; rfl) | rfl)); have b_w1_1_2 := stays (hx_.cell (a := ⟨w.heap.size + 1, 2, none⟩) (by first | (go_simp; rfl) | rfl)); have b_w1_1_3 := stays (hx_.cell (a := ⟨w.heap.size + 1, 3, none⟩) (by first | (go_simp; rfl) | rfl)); clear hx_)
      rw [hp]
      go_wp2_with fail
      refine (there_c k x.parts _ _ _ (Ext.C (by repeat (first | assumption | exact Ext.refl _ | exact Ext.of_xt _ _ | apply Ext.alloc | apply Ext.drewN | apply Ext.drew)) G3.out)).mono ?_
      (rintro _ w2 ⟨rfl, hx_⟩; have e_w_w2 : Ext w w2 := Ext.trans (by repeat (first | assumption | exact Ext.refl _ | exact Ext.of_xt _ _ | apply Ext.alloc | apply Ext.drewN | apply Ext.drew)) hx_; have e_w1_w2 : Ext w1 w2 := Ext.trans (by repeat (first | assumption | exact Ext.refl _ | exact Ext.of_xt _ _ | apply Ext.alloc | apply Ext.drewN | apply Ext.drew)) hx_; clear hx_)
      rw [HQ.out]
      go_wp2
      go_loopw [12, 77] (fun l i wr => ∃ (j : Nat) (v : Value), j ≤ x.parts.length ∧ i = .int .i64 j ∧ v = l ∧ Aside0 (OwnI w2 wr v ((x.parts.take j).map fun n => sizes.getD n.toNat 0)) ∧ Ext w2 wr) (fun _ i _ => x.parts.length - (intOf i).toNat)
      case atStart => exact ⟨0, _, by omega, rfl, rfl, ⟨OwnI.nil _ _⟩, Ext.refl _⟩
      case round =>
        obtain ⟨j, v, hj, rfl, rfl, HO, hxr⟩ := hrel
        by_cases hlt : j < x.parts.length
        · obtain ⟨bd, rfl, b0⟩ := at_int (Ext.C (e_w_w2.trans hxr) G3.out) j hlt
          have hn := List.all_eq_true.1 HQ.out _ (List.getElem_mem hlt)
          simp only [Bool.and_eq_true, decide_eq_true_eq] at hn
          have hn1 : x.parts[j].toNat < sizes.length := by have := HSL.out; omega
          obtain ⟨sd, rfl, s0⟩ := at_int (Ext.C (e_w_w2.trans hxr) HS.out) x.parts[j].toNat hn1
          have hn2 : 0 ≤ x.parts[j] := hn.1
          have hn3 : x.parts[j] < (sizes.length : Int) := by omega
          have hgd : sizes[x.parts[j].toNat] = sizes.getD x.parts[j].toNat 0 := by simp [hn1]
          generalize sizes[x.parts[j].toNat] = y at s0 hgd
          have HN := Aside0.mk hgd
          clear hgd
          have HT := Aside0.mk (take_snoc x.parts j hlt)
          clear hn hn1
          go_wp2_with (at_builtin; refine app_int rfl rfl rfl rfl HO.out (by repeat (first | assumption | exact Ext.refl _ | exact Ext.of_xt _ _ | apply Ext.alloc | apply Ext.drewN | apply Ext.drew)) (by simp; omega) ?_; intro v1 w3 hv1 hw3 _ _)
          go_roundw
          case rel =>
            refine ⟨j + 1, _, by omega, by go_num, rfl, ⟨?_⟩, hw3⟩
            rw [HT.out, List.map_append, List.map_singleton, ← HN.out]
            exact hv1
          case measure => simp [intOf]; omega
        · obtain rfl : j = x.parts.length := by omega
          have HO' : OwnI w2 wr v (x.parts.map fun n => sizes.getD n.toNat 0) := by have := HO.out; rwa [List.take_length] at this
          clear HO
          have hys : (x.parts.map fun n => sizes.getD n.toNat 0).length = x.parts.length := List.length_map _
          have hyb : ∀ y ∈ (x.parts.map fun n => sizes.getD n.toNat 0), 0 ≤ y ∧ y ≤ 1000 := by
            intro y hy
            obtain ⟨n, _, rfl⟩ := List.mem_map.1 hy
            rw [List.getD_eq_getElem?_getD]
            cases hg : sizes[n.toNat]? with
            | none => simp
            | some z => exact HSB.out z (List.mem_of_getElem? hg)
          generalize (x.parts.map fun n => sizes.getD n.toNat 0) = ys at HO' hys hyb HF
          rw [← hys] at HF
          have hyl : ys.length ≤ 1000 := by omega
          have HYB := Aside0.mk hyb
          clear hyb hys
          obtain ⟨vA, vc, rfl, hvl, hvC⟩ := HO'.reads
          have HVC := Aside0.mk hvC
          clear HO' hvC
          have e_w_wr : Ext w wr := e_w_w2.trans hxr
          have hsb := isum_bd 1000 (by omega) ys HYB.out
          have hs1 : isum ys ≤ 1000000 := by omega
          have hs0 := hsb.1
          clear hsb
          by_cases h32 : isum ys ≤ 32
          all_goals (
            by_cases h0 : 0 < ys.length
            all_goals (
              by_cases h8 : ys.length ≤ 8
              all_goals (
                go_wp2_with fail
                refine (isum_c ys _ _ _ HVC.out hyl HYB.out).mono ?_
                (rintro _ w4 ⟨rfl, hx_⟩; have e_w_w4 : Ext w w4 := Ext.trans (by repeat (first | assumption | exact Ext.refl _ | exact Ext.of_xt _ _ | apply Ext.alloc | apply Ext.drewN | apply Ext.drew)) hx_; clear hx_)
                go_wp2
                go_ret2
                exact ⟨ret_tup (HF.out.trans (by simp_all)), (by repeat (first | assumption | exact Ext.refl _ | exact Ext.of_xt _ _ | apply Ext.alloc | apply Ext.drewN | apply Ext.drew))⟩)))

set_option maxHeartbeats 1000000 in
include hA hS in
theorem may_c5 (h1 : t[k].kind = 5) (hsl : sizes.length = k) (hsb : ∀ x ∈ sizes, 0 ≤ x ∧ x ≤ 1000) :
    Calls Tryd.prog 139 #[.slice A t.length c, .int .i64 k, .slice S sizes.length d] w fun e w' => e = .returned (tup (mayT t t[k] k sizes)) ∧ Ext w w' := by
  have HA := Aside0.mk hA
  have HS := Aside0.mk hS
  have HSB := Aside0.mk hsb
  obtain ⟨ad, A3, c3, rfl, a0, a1, a2, a3, l3, g3⟩ := at_Typ hA k hk
  clear hA hS hsb
  generalize hx : t[k] = x at a0 a1 a2 a3 l3 g3 h1 ⊢
  clear hx
  have G3 := Aside0.mk g3
  clear g3
  have e1 : (x.kind == 1) = false := by simp [h1]
  have e2 : (x.kind == 2) = false := by simp [h1]
  have e3 : (x.kind == 3) = false := by simp [h1]
  have e4 : (x.kind == 4) = false := by simp [h1]
  have e5 : (x.kind == 5) = true := by simp [h1]
  have H1 := Aside0.mk h1
  clear h1
  cases hp : plainT x with
  | false =>
    have HF : Hid (mayT t x k sizes = (0, false)) := by unfold Hid; simp [mayT, H1.out, hp]
    go_enter Tryd.func139, Tryd.ntmps139
    go_wp2_with fail
    refine (plainT_c x A3 c3 _).mono ?_
    (rintro _ w1 ⟨rfl, hx_⟩; have e_w_w1 : Ext w w1 := Ext.trans (by repeat (first | assumption | exact Ext.refl _ | exact Ext.of_xt _ _ | apply Ext.alloc | apply Ext.drewN | apply Ext.drew)) hx_; have b_w1_0_0 := stays (hx_.cell (a := ⟨w.heap.size, 0, none⟩) (by first | (go_simp; rfl) | rfl)); have b_w1_1_0 := stays (hx_.cell (a := ⟨w.heap.size + 1, 0, none⟩) (by first | (go_simp; rfl) | rfl)); have b_w1_1_1 := stays (hx_.cell (a := ⟨w.heap.size + 1, 1, none⟩) (by first | (go_simp; rfl) | rfl)); have b_w1_1_2 := stays (hx_.cell (a := ⟨w.heap.size + 1, 2, none⟩) (by first | (go_simp; rfl) | rfl)); have b_w1_1_3 := stays (hx_.cell (a := ⟨w.heap.size + 1, 3, none⟩) (by first | (go_simp; rfl) | rfl)); clear hx_)
    rw [hp]
    go_wp2
    go_ret2
    exact ⟨ret_tup HF.out, (by repeat (first | assumption | exact Ext.refl _ | exact Ext.of_xt _ _ | apply Ext.alloc | apply Ext.drewN | apply Ext.drew))⟩
  | true =>
    cases hq : bel [x.elem] k with
    | false =>
      have HF : Hid (mayT t x k sizes = (0, false)) := by unfold Hid; simp [mayT, H1.out, hp, hq]
      go_enter Tryd.func139, Tryd.ntmps139
      go_wp2_with fail
      refine (plainT_c x A3 c3 _).mono ?_
      (rintro _ w1 ⟨rfl, hx_⟩; have e_w_w1 : Ext w w1 := Ext.trans (by repeat (first | assumption | exact Ext.refl _ | exact Ext.of_xt _ _ | apply Ext.alloc | apply Ext.drewN | apply Ext.drew)) hx_; have b_w1_0_0 := stays (hx_.cell (a := ⟨w.heap.size, 0, none⟩) (by first | (go_simp; rfl) | rfl)); have b_w1_1_0 := stays (hx_.cell (a := ⟨w.heap.size + 1, 0, none⟩) (by first | (go_simp; rfl) | rfl)); have b_w1_1_1 := stays (hx_.cell (a := ⟨w.heap.size + 1, 1, none⟩) (by first | (go_simp; rfl) | rfl)); have b_w1_1_2 := stays (hx_.cell (a := ⟨w.heap.size + 1, 2, none⟩) (by first | (go_simp; rfl) | rfl)); have b_w1_1_3 := stays (hx_.cell (a := ⟨w.heap.size + 1, 3, none⟩) (by first | (go_simp; rfl) | rfl)); clear hx_)
      rw [hp]
      go_wp2_with fail
      refine (there_c k [x.elem] _ 1 _ (C_litI [x.elem] rfl (by simp) _)).mono ?_
      (rintro _ w2 ⟨rfl, hx_⟩; have e_w_w2 : Ext w w2 := Ext.trans (by repeat (first | assumption | exact Ext.refl _ | exact Ext.of_xt _ _ | apply Ext.alloc | apply Ext.drewN | apply Ext.drew)) hx_; have e_w1_w2 : Ext w1 w2 := Ext.trans (by repeat (first | assumption | exact Ext.refl _ | exact Ext.of_xt _ _ | apply Ext.alloc | apply Ext.drewN | apply Ext.drew)) hx_; clear hx_)
      rw [hq]
      go_wp2
      go_ret2
      exact ⟨ret_tup HF.out, (by repeat (first | assumption | exact Ext.refl _ | exact Ext.of_xt _ _ | apply Ext.alloc | apply Ext.drewN | apply Ext.drew))⟩
    | true =>
      by_cases hm : 1 ≤ x.many ∧ x.many ≤ 16
      · have HF : Hid (mayT t x k sizes = (x.many * sizes.getD x.elem.toNat 0, decide (x.many * sizes.getD x.elem.toNat 0 ≤ 32))) := by
          unfold Hid; simp [mayT, H1.out, hp, hq, hm]
        obtain ⟨hm1, hm2⟩ := hm
        have hn := List.all_eq_true.1 hq x.elem (by simp)
        simp only [Bool.and_eq_true, decide_eq_true_eq] at hn
        have HQ := Aside0.mk hq
        have HSL := Aside0.mk hsl
        have hn1 : x.elem.toNat < sizes.length := by omega
        obtain ⟨sd, rfl, s0⟩ := at_int HS.out x.elem.toNat hn1
        have hn2 : 0 ≤ x.elem := hn.1
        have hn3 : x.elem < (sizes.length : Int) := by omega
        have hgd : sizes[x.elem.toNat] = sizes.getD x.elem.toNat 0 := by simp [hn1]
        have hyb := HSB.out _ (List.getElem_mem hn1)
        generalize sizes[x.elem.toNat] = y at s0 hgd hyb
        rw [← hgd] at HF
        have hy0 : 0 ≤ y := hyb.1
        have hy1 : y ≤ 1000 := hyb.2
        have hy2 : 0 ≤ x.many * y := Int.mul_nonneg (by omega) hy0
        have hy3 : x.many * y ≤ 16 * 1000 := Int.mul_le_mul hm2 hy1 hy0 (by omega)
        clear hn hgd hyb hsl hq
        go_enter Tryd.func139, Tryd.ntmps139
        go_wp2_with fail
        refine (plainT_c x A3 c3 _).mono ?_
        (rintro _ w1 ⟨rfl, hx_⟩; have e_w_w1 : Ext w w1 := Ext.trans (by repeat (first | assumption | exact Ext.refl _ | exact Ext.of_xt _ _ | apply Ext.alloc | apply Ext.drewN | apply Ext.drew)) hx_; have b_w1_0_0 := stays (hx_.cell (a := ⟨w.heap.size, 0, none⟩) (by first | (go_simp; rfl) | rfl)); have b_w1_1_0 := stays (hx_.cell (a := ⟨w.heap.size + 1, 0, none⟩) (by first | (go_simp; rfl) | rfl)); have b_w1_1_1 := stays (hx_.cell (a := ⟨w.heap.size + 1, 1, none⟩) (by first | (go_simp; rfl) | rfl)); have b_w1_1_2 := stays (hx_.cell (a := ⟨w.heap.size + 1, 2, none⟩) (by first | (go_simp; rfl) | rfl)); have b_w1_1_3 := stays (hx_.cell (a := ⟨w.heap.size + 1, 3, none⟩) (by first | (go_simp; rfl) | rfl)); clear hx_)
        rw [hp]
        go_wp2_with fail
        refine (there_c k [x.elem] _ 1 _ (C_litI [x.elem] rfl (by simp) _)).mono ?_
        (rintro _ w2 ⟨rfl, hx_⟩; have e_w_w2 : Ext w w2 := Ext.trans (by repeat (first | assumption | exact Ext.refl _ | exact Ext.of_xt _ _ | apply Ext.alloc | apply Ext.drewN | apply Ext.drew)) hx_; have e_w1_w2 : Ext w1 w2 := Ext.trans (by repeat (first | assumption | exact Ext.refl _ | exact Ext.of_xt _ _ | apply Ext.alloc | apply Ext.drewN | apply Ext.drew)) hx_; clear hx_)
        rw [HQ.out]
        go_wp2
        have hmul : IntKind.i64.wrap (x.many * y) = x.many * y := IntWalk.i64_in _ (by omega)
        go_quiet (fail)
        clear hmul
        go_wp2
        all_goals (go_ret2; exact ⟨ret_tup (HF.out.trans (by simp_all)), (by repeat (first | assumption | exact Ext.refl _ | exact Ext.of_xt _ _ | apply Ext.alloc | apply Ext.drewN | apply Ext.drew))⟩)
      · have HF : Hid (mayT t x k sizes = (0, false)) := by
          unfold Hid
          have : (decide (1 ≤ x.many) && decide (x.many ≤ 16)) = false := by simp; omega
          simp [mayT, H1.out, hp, hq]; intro h; simp at this; omega
        have hm' : x.many < 1 ∨ (1 ≤ x.many ∧ 16 < x.many) := by omega
        clear hm
        rcases hm' with hm1 | ⟨hm1, hm2⟩
        all_goals (
          try have hd : decide (x.many ≤ 16) = false := decide_eq_false (show ¬ x.many ≤ 16 by omega)
          go_enter Tryd.func139, Tryd.ntmps139
          go_wp2_with fail
          refine (plainT_c x A3 c3 _).mono ?_
          (rintro _ w1 ⟨rfl, hx_⟩; have e_w_w1 : Ext w w1 := Ext.trans (by repeat (first | assumption | exact Ext.refl _ | exact Ext.of_xt _ _ | apply Ext.alloc | apply Ext.drewN | apply Ext.drew)) hx_; have b_w1_0_0 := stays (hx_.cell (a := ⟨w.heap.size, 0, none⟩) (by first | (go_simp; rfl) | rfl)); have b_w1_1_0 := stays (hx_.cell (a := ⟨w.heap.size + 1, 0, none⟩) (by first | (go_simp; rfl) | rfl)); have b_w1_1_1 := stays (hx_.cell (a := ⟨w.heap.size + 1, 1, none⟩) (by first | (go_simp; rfl) | rfl)); have b_w1_1_2 := stays (hx_.cell (a := ⟨w.heap.size + 1, 2, none⟩) (by first | (go_simp; rfl) | rfl)); have b_w1_1_3 := stays (hx_.cell (a := ⟨w.heap.size + 1, 3, none⟩) (by first | (go_simp; rfl) | rfl)); clear hx_)
          rw [hp]
          go_wp2_with fail
          refine (there_c k [x.elem] _ 1 _ (C_litI [x.elem] rfl (by simp) _)).mono ?_
          (rintro _ w2 ⟨rfl, hx_⟩; have e_w_w2 : Ext w w2 := Ext.trans (by repeat (first | assumption | exact Ext.refl _ | exact Ext.of_xt _ _ | apply Ext.alloc | apply Ext.drewN | apply Ext.drew)) hx_; have e_w1_w2 : Ext w1 w2 := Ext.trans (by repeat (first | assumption | exact Ext.refl _ | exact Ext.of_xt _ _ | apply Ext.alloc | apply Ext.drewN | apply Ext.drew)) hx_; clear hx_)
          rw [hq]
          go_wp2
          go_ret2
          exact ⟨ret_tup HF.out, (by repeat (first | assumption | exact Ext.refl _ | exact Ext.of_xt _ _ | apply Ext.alloc | apply Ext.drewN | apply Ext.drew))⟩)

set_option maxHeartbeats 1000000 in
include hA hS in
theorem may_c6 (h1 : t[k].kind < 1 ∨ 5 < t[k].kind) :
    Calls Tryd.prog 139 #[.slice A t.length c, .int .i64 k, .slice S sizes.length d] w fun e w' => e = .returned (tup (mayT t t[k] k sizes)) ∧ Ext w w' := by
  have HA := Aside0.mk hA
  have HS := Aside0.mk hS
  obtain ⟨ad, A3, c3, rfl, a0, a1, a2, a3, l3, g3⟩ := at_Typ hA k hk
  clear hA hS
  generalize hx : t[k] = x at a0 a1 a2 a3 l3 g3 h1 ⊢
  clear hx
  have G3 := Aside0.mk g3
  clear g3
  have e1 : (x.kind == 1) = false := by rw [beq_eq_false_iff_ne]; omega
  have e2 : (x.kind == 2) = false := by rw [beq_eq_false_iff_ne]; omega
  have e3 : (x.kind == 3) = false := by rw [beq_eq_false_iff_ne]; omega
  have e4 : (x.kind == 4) = false := by rw [beq_eq_false_iff_ne]; omega
  have e5 : (x.kind == 5) = false := by rw [beq_eq_false_iff_ne]; omega
  have HF : Hid (mayT t x k sizes = (1, false)) := by
    unfold Hid mayT
    rw [if_neg (by omega), if_neg (by omega), if_neg (by omega), if_neg (by omega), if_neg (by omega)]
  clear h1
  go_enter Tryd.func139, Tryd.ntmps139
  go_wp2_with fail
  refine (plainT_c x A3 c3 _).mono ?_
  (rintro _ w1 ⟨rfl, hx_⟩; have e_w_w1 : Ext w w1 := Ext.trans (by repeat (first | assumption | exact Ext.refl _ | exact Ext.of_xt _ _ | apply Ext.alloc | apply Ext.drewN | apply Ext.drew)) hx_; have b_w1_0_0 := stays (hx_.cell (a := ⟨w.heap.size, 0, none⟩) (by first | (go_simp; rfl) | rfl)); have b_w1_1_0 := stays (hx_.cell (a := ⟨w.heap.size + 1, 0, none⟩) (by first | (go_simp; rfl) | rfl)); have b_w1_1_1 := stays (hx_.cell (a := ⟨w.heap.size + 1, 1, none⟩) (by first | (go_simp; rfl) | rfl)); have b_w1_1_2 := stays (hx_.cell (a := ⟨w.heap.size + 1, 2, none⟩) (by first | (go_simp; rfl) | rfl)); have b_w1_1_3 := stays (hx_.cell (a := ⟨w.heap.size + 1, 3, none⟩) (by first | (go_simp; rfl) | rfl)); clear hx_)
  go_wp2
  go_ret2
  exact ⟨ret_tup HF.out, (by repeat (first | assumption | exact Ext.refl _ | exact Ext.of_xt _ _ | apply Ext.alloc | apply Ext.drewN | apply Ext.drew))⟩

include hA hS in
theorem may_c (hp20 : t[k].parts.length ≤ 1000) (hsl : sizes.length = k) (hsb : ∀ x ∈ sizes, 0 ≤ x ∧ x ≤ 1000) :
    Calls Tryd.prog 139 #[.slice A t.length c, .int .i64 k, .slice S sizes.length d] w fun e w' => e = .returned (tup (mayT t t[k] k sizes)) ∧ Ext w w' := by
  by_cases h1 : t[k].kind = 1
  · exact may_c1 t A c k sizes S d w hA hk hS (.inl h1)
  by_cases h2 : t[k].kind = 2
  · exact may_c1 t A c k sizes S d w hA hk hS (.inr h2)
  by_cases h3 : t[k].kind = 3
  · exact may_c3 t A c k sizes S d w hA hk hS h3 hp20
  by_cases h4 : t[k].kind = 4
  · exact may_c4 t A c k sizes S d w hA hk hS h4 hp20 hsl hsb
  by_cases h5 : t[k].kind = 5
  · exact may_c5 t A c k sizes S d w hA hk hS h5 hsl hsb
  exact may_c6 t A c k sizes S d w hA hk hS (by omega)
end

/-- the sizes of the types so far, or that one may not be -/
def sizesT (t : List Typ) : Nat → Option (List Int)
  | 0 => some []
  | k + 1 => match sizesT t k with
    | some l => if (mayT t (t.getD k zTyp) k l).2 = true then some (l ++ [(mayT t (t.getD k zTyp) k l).1]) else none
    | none => none
/-- types.Check -/
def chkT (t : List Typ) : Int := if 16 < t.length then 4 else if (sizesT t t.length).isSome then 0 else 30

theorem mayT_bd (t : List Typ) (x : Typ) (k : Int) (l : List Int) (h : (mayT t x k l).2 = true) (hl : ∀ y ∈ l, 0 ≤ y ∧ y ≤ 1000) : 0 ≤ (mayT t x k l).1 ∧ (mayT t x k l).1 ≤ 1000 := by
  have hg : ∀ n : Nat, 0 ≤ l.getD n 0 := by
    intro n
    rw [List.getD_eq_getElem?_getD]
    cases hn : l[n]? with
    | none => simp
    | some z => exact (hl z (List.mem_of_getElem? hn)).1
  unfold mayT at h ⊢
  by_cases h1 : x.kind = 1
  · simp [h1]
  rw [if_neg h1] at h ⊢
  by_cases h2 : x.kind = 2
  · simp [h2]
  rw [if_neg h2] at h ⊢
  by_cases h3 : x.kind = 3
  · simp [h3]
  rw [if_neg h3] at h ⊢
  by_cases h4 : x.kind = 4
  · rw [if_pos h4] at h ⊢
    split at h
    · rename_i hc
      rw [if_pos hc]
      simp only [Bool.and_eq_true, decide_eq_true_eq] at h
      refine ⟨?_, by omega⟩
      have : ∀ (q : List Int), 0 ≤ isum (q.map fun n => l.getD n.toNat 0) := by
        intro q
        induction q with
        | nil => simp [isum]
        | cons a q ih => simp only [List.map_cons, isum]; have := hg a.toNat; omega
      exact this _
    · cases h
  rw [if_neg h4] at h ⊢
  by_cases h5 : x.kind = 5
  · rw [if_pos h5] at h ⊢
    split at h
    · rename_i hc
      rw [if_pos hc]
      simp only [Bool.and_eq_true, decide_eq_true_eq] at h hc
      refine ⟨?_, by omega⟩
      exact Int.mul_nonneg (by omega) (hg _)
    · cases h
  rw [if_neg h5] at h
  cases h

theorem sizesT_bd (t : List Typ) : ∀ (k : Nat) (l : List Int), sizesT t k = some l → l.length = k ∧ ∀ y ∈ l, 0 ≤ y ∧ y ≤ 1000
  | 0, l, h => by cases h; simp
  | k + 1, l, h => by
    rw [sizesT] at h
    cases hq : sizesT t k with
    | none => rw [hq] at h; cases h
    | some q =>
      rw [hq] at h
      obtain ⟨h1, h2⟩ := sizesT_bd t k q hq
      simp only at h
      split at h
      · rename_i hm
        cases h
        refine ⟨by simp [h1], fun y hy => ?_⟩
        rcases List.mem_append.1 hy with hy | hy
        · exact h2 y hy
        · rw [List.mem_singleton.1 hy]
          exact mayT_bd t _ k q hm h2
      · cases h
theorem sizesT_none (t : List Typ) (k : Nat) (h : sizesT t k = none) : ∀ j, k ≤ j → sizesT t j = none := by
  intro j hj
  induction j with
  | zero => obtain rfl : k = 0 := by omega
            exact h
  | succ j ih =>
    rcases Nat.lt_or_ge k (j + 1) with hk | hk
    · rw [sizesT, ih (by omega)]
    · obtain rfl : k = j + 1 := by omega
      exact h

set_option maxHeartbeats 1000000 in
theorem chkT_c (t : List Typ) (A : Option Addr) (c : Nat) (w : World) (hA : Kd.C kTyp w A t.length t) (hp : ∀ x ∈ t, x.parts.length ≤ 1000) :
    Calls Tryd.prog 115 #[.slice A t.length c] w fun e w' => e = .returned (.int .i64 (chkT t)) ∧ Ext w w' := by
  have HA := Aside0.mk hA
  have HP := Aside0.mk hp
  clear hA hp
  by_cases h16 : 16 < t.length
  · have HF : Hid (chkT t = 4) := by unfold Hid chkT; rw [if_pos h16]
    go_enter Tryd.func115, Tryd.ntmps115
    go_wp2
    go_ret
    exact ⟨ret_int HF.out.symm, Ext.refl _⟩
  · go_enter Tryd.func115, Tryd.ntmps115
    go_wp2
    go_loopw [3, 12] (fun l i wr => ∃ (j : Nat) (v : Value) (q : List Int), j ≤ t.length ∧ i = .int .i64 j ∧ v = l ∧ Aside0 (sizesT t j = some q) ∧ Aside0 (OwnI w wr v q) ∧ Ext w wr) (fun _ i _ => t.length - (intOf i).toNat)
    case atStart => exact ⟨0, _, [], by omega, rfl, rfl, ⟨rfl⟩, ⟨OwnI.nil _ _⟩, Ext.refl _⟩
    case round =>
      obtain ⟨j, v, q, hj, rfl, rfl, HS, HO, hxr⟩ := hrel
      by_cases hlt : j < t.length
      · obtain ⟨hq1, hq2⟩ := sizesT_bd t j q HS.out
        have HQ1 := Aside0.mk hq1
        have hql : q.length ≤ 16 := by omega
        clear hq1
        obtain ⟨vA, vc, rfl, hvl, hvC⟩ := HO.out.reads
        have HVC := Aside0.mk hvC
        have HQ2 := Aside0.mk hq2
        clear hvC hq2
        have HN : Aside0 (sizesT t (j + 1) = if (mayT t t[j] j q).2 = true then some (q ++ [(mayT t t[j] j q).1]) else none) := ⟨by rw [sizesT, HS.out]; simp [hlt]⟩
        go_wp2_with fail
        refine (may_c t A c j q vA vc _ (Ext.C (by repeat (first | assumption | exact Ext.refl _ | exact Ext.of_xt _ _ | apply Ext.alloc | apply Ext.drewN | apply Ext.drew)) HA.out) hlt HVC.out (HP.out _ (List.getElem_mem hlt)) HQ1.out HQ2.out).mono ?_
        rintro _ w1 ⟨rfl, hx1⟩
        have e_w_w1 : Ext w w1 := hxr.trans hx1
        have HO1 := Aside0.mk (HO.out.ext hx1)
        clear hx1 HO
        unfold tup
        generalize mayT t t[j] j q = r at HN ⊢
        obtain ⟨r1, r2⟩ := r
        cases r2 with
        | true =>
          go_wp2_with (at_builtin; refine app_int rfl rfl rfl rfl HO1.out (by repeat (first | assumption | exact Ext.refl _ | exact Ext.of_xt _ _ | apply Ext.alloc | apply Ext.drewN | apply Ext.drew)) (by omega) ?_; intro v1 w3 hv1 hw3 _ _)
          go_roundw
          case rel => exact ⟨j + 1, _, q ++ [r1], by omega, by go_num, rfl, ⟨HN.out⟩, ⟨hv1⟩, hw3⟩
          case measure => simp [intOf]; omega
        | false =>
          have HF : Hid (chkT t = 30) := by
            unfold Hid chkT
            rw [if_neg h16, sizesT_none t (j + 1) HN.out _ (by omega)]
            rfl
          go_wp2
          go_ret
          exact ⟨ret_int HF.out.symm, (by repeat (first | assumption | exact Ext.refl _ | exact Ext.of_xt _ _ | apply Ext.alloc | apply Ext.drewN | apply Ext.drew))⟩
      · obtain rfl : j = t.length := by omega
        have HF : Hid (chkT t = 0) := by
          unfold Hid chkT
          rw [if_neg h16, HS.out]
          rfl
        go_wp2
        go_ret
        exact ⟨ret_int HF.out.symm, hxr⟩
end Go.Proofs.YtjbnabjjbofhjaaDoor.Fes
