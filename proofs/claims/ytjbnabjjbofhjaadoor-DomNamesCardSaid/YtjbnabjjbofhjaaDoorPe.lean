/- Rulers: rounds over the order; the ruler next to a block. Plain Lean. -/
import Derived.Test.YtjbnabjjbofhjaaDoorPo
set_option linter.unusedVariables false
namespace Go.Proofs.YtjbnabjjbofhjaaDoor.Fes

/-- how far a row is from its rest -/
def wgt (od : Nat → Int) (v : Int) : Nat := if v = -1 then 1000 else (od v.toNat).toNat
def wt (od : Nat → Int) (nx : Nat → Int) : Nat := ((List.range 20).map fun b => wgt od (nx b)).sum
theorem sum_le_of {α : Type} (f g : α → Nat) : ∀ (l : List α), (∀ x ∈ l, f x ≤ g x) → (l.map f).sum ≤ (l.map g).sum
  | [], _ => by simp
  | a :: l, h => by
    have h1 := h a (by simp)
    have h2 := sum_le_of f g l (fun x hx => h x (by simp [hx]))
    simp only [List.map_cons, List.sum_cons]
    omega
theorem sum_lt_of {α : Type} (f g : α → Nat) : ∀ (l : List α), (∀ x ∈ l, f x ≤ g x) → (∃ x ∈ l, f x < g x) → (l.map f).sum < (l.map g).sum
  | [], _, he => by obtain ⟨x, hx, _⟩ := he; simp at hx
  | a :: l, h, he => by
    have h1 := h a (by simp)
    have h2 := sum_le_of f g l (fun x hx => h x (by simp [hx]))
    simp only [List.map_cons, List.sum_cons]
    obtain ⟨x, hx, hl⟩ := he
    rcases List.mem_cons.1 hx with rfl | hx
    · omega
    · have := sum_lt_of f g l (fun x hx => h x (by simp [hx])) ⟨x, hx, hl⟩
      omega
/-- What holds within a round that began with nx0, up to the number j. -/
structure InR (to : Nat → List Nat) (od : Nat → Int) (nx0 nx : Nat → Int) (j : Int) : Prop where
  doms : Doms to od nx
  upto : Upto to od nx j
  prog : (nx = nx0 ∧ ∀ b c : Nat, Rc to b → b ≠ 0 → od b < j → nx0 b = (c : Int) → Meet to nx0 b c) ∨ wt od nx < wt od nx0

section
variable {to : Nat → List Nat} {od nx nx0 : Nat → Int}
theorem InR.start (N : Nums to od) (I : Doms to od nx) : InR to od nx nx 1 := by
  have h1 : ∀ b, Rc to b → od b < 1 → b = 0 := fun b hb h => N.inj b 0 hb (.here trivial) (by have := N.pos b hb; have := N.zero; omega)
  refine ⟨I, ⟨fun b hb h => ?_, fun z c a hz hc hzj _ _ _ => ?_⟩, .inl ⟨rfl, fun b c hb hb0 h _ => absurd (h1 b hb h) hb0⟩⟩
  · obtain rfl := h1 b hb h
    rw [I.root]; omega
  · exact absurd (h1 z (I.good z (by omega)).1 hzj) hz
theorem turned_same {b m : Nat} (h : nx b = (m : Int)) : turned nx b m = nx := by
  funext x
  unfold turned
  split
  · rename_i e; rw [e, h]
  · rfl
theorem InR.turn (N : Nums to od) {b m : Nat} (R : InR to od nx0 nx (od b)) (hb : Rc to b) (hb0 : b ≠ 0) (hm : nx m ≠ -1) (hM : Meet to nx b m) (hb20 : b < 20) (ho : od b ≤ 20) :
    InR to od nx0 (turned nx b m) (od b + 1) := by
  obtain ⟨hmb, D', U', hold⟩ := R.doms.turn N R.upto hb hb0 hm hM
  have hmr := (R.doms.good m hm).1
  have hmp := N.pos m hmr
  have hle : wgt od (m : Int) ≤ wgt od (nx b) ∧ (nx b ≠ (m : Int) → wgt od (m : Int) < wgt od (nx b)) := by
    unfold wgt
    rw [if_neg (by omega)]
    by_cases hn : nx b = -1
    · rw [if_pos hn]
      have : (od (m : Int).toNat) = od m := by simp
      omega
    · rw [if_neg hn]
      obtain ⟨c, hc, hcn, _⟩ := (R.doms.good b hn).2 hb0
      have hcr := (R.doms.good c hcn).1
      have h1 := hold c hc
      rw [hc]
      have e1 : (od (m : Int).toNat) = od m := by simp
      have e2 : (od (c : Int).toNat) = od c := by simp
      rw [e1, e2]
      refine ⟨by omega, fun hne => ?_⟩
      have : od m ≠ od c := fun e => hne (by rw [N.inj m c hmr hcr e])
      omega
  have hpt : ∀ x ∈ List.range 20, wgt od (turned nx b m x) ≤ wgt od (nx x) := by
    intro x _
    unfold turned
    split
    · rename_i e; rw [e]; exact hle.1
    · exact Nat.le_refl _
  have hw : wt od (turned nx b m) ≤ wt od nx := sum_le_of _ _ _ hpt
  refine ⟨D', U', ?_⟩
  rcases R.prog with ⟨rfl, hall⟩ | hlt
  · by_cases he : nx b = (m : Int)
    · left
      rw [turned_same he]
      refine ⟨rfl, fun x c hx hx0 hxl hc => ?_⟩
      by_cases hxb : x = b
      · subst hxb
        obtain rfl : m = c := by omega
        exact hM
      · have : od x ≠ od b := fun e => hxb (N.inj x b hx hb e)
        exact hall x c hx hx0 (by omega) hc
    · right
      exact sum_lt_of _ _ _ hpt ⟨b, by simpa using hb20, by unfold turned; rw [if_pos rfl]; exact hle.2 he⟩
  · exact .inr (by omega)

/-- The next ruler, by what it is. -/
def IsRuler (to : Nat → List Nat) (a b : Nat) : Prop := a ≠ b ∧ Dm to a b ∧ ∀ c, c ≠ b → Dm to c b → Dm to c a
theorem IsRuler.uniq {a a' b : Nat} (h : IsRuler to a b) (k : IsRuler to a' b) (hb : Rc to b) : a = a' :=
  Dm.antisymm (k.2.2 a h.1 h.2.1) (h.2.2 a' k.1 k.2.1) (k.2.1.reached hb)
theorem IsRuler.not_zero {a : Nat} : ¬ IsRuler to a 0 := fun h => h.1 h.2.1.zero
/-- A row that is at rest. -/
structure Rests (to : Nat → List Nat) (od nx : Nat → Int) : Prop where
  doms : Doms to od nx
  known : ∀ b, Rc to b → nx b ≠ -1
  up : ∀ a b, Rc to b → (Up nx b a ↔ Dm to a b)
theorem InR.rests (N : Nums to od) {j : Int} (R : InR to od nx nx j) (hj : ∀ b, Rc to b → od b < j) : Rests to od nx := by
  have hk : ∀ b, Rc to b → nx b ≠ -1 := fun b hb => R.upto.all b hb (hj b hb)
  refine ⟨R.doms, hk, fun a b hb => ?_⟩
  rcases R.prog with ⟨_, hall⟩ | h
  · exact R.doms.rest N hk (fun b c hb hb0 hc => hall b c hb hb0 (hj b hb) hc) hb
  · omega
theorem Rests.unknown (S : Rests to od nx) {b : Nat} (h : ¬ Rc to b) : nx b = -1 := Classical.byContradiction fun e => h (S.doms.good b e).1
theorem Rests.ruler (S : Rests to od nx) {b : Nat} (hb : Rc to b) (hb0 : b ≠ 0) : ∃ c : Nat, nx b = (c : Int) ∧ IsRuler to c b ∧ Rc to c ∧ od c < od b := by
  obtain ⟨c, hc, hcn, hcl⟩ := (S.doms.good b (S.known b hb)).2 hb0
  have hcr := (S.doms.good c hcn).1
  refine ⟨c, hc, ⟨by rintro rfl; omega, (S.up c b hb).1 (.on hb0 hc (.here c)), fun d hd hdb => ?_⟩, hcr, hcl⟩
  exact (S.up d c hcr).1 (((S.up d b hb).2 hdb).next hd hc)

/-- does one that is there rule one that is reached? (the document's) -/
def ruledB (to : Nat → List Nat) (n a b : Nat) : Bool := a == b || (comeB to n [0] (-1) a && !comeB to n [0] (a : Int) b)
theorem reached_iff {n : Nat} (hi : Inside to n) (hn : 0 < n) (b : Nat) : comeB to n [0] (-1) b = true ↔ Rc to b := by
  rw [come_iff to n hi [0] (by simpa using hn)]
  constructor
  · rintro ⟨x, hx, hr⟩
    obtain rfl : x = 0 := by simpa using hx
    exact hr.mono fun _ _ => trivial
  · intro h
    exact ⟨0, by simp, h.mono fun x _ => by unfold okB; omega⟩
theorem ruledB_iff {n : Nat} (hi : Inside to n) (hn : 0 < n) {a b : Nat} (hb : Rc to b) : ruledB to n a b = true ↔ Dm to a b := by
  have h2 : comeB to n [0] (a : Int) b = true ↔ Rch to (fun x => x ≠ a) 0 b := by
    rw [come_iff to n hi [0] (by simpa using hn)]
    constructor
    · rintro ⟨x, hx, hr⟩
      obtain rfl : x = 0 := by simpa using hx
      exact hr.mono fun y hy e => hy (by rw [e])
    · intro h
      exact ⟨0, by simp, h.mono fun x hx => by unfold okB; omega⟩
  unfold ruledB
  rw [Bool.or_eq_true, Bool.and_eq_true, Bool.not_eq_true', reached_iff hi hn, beq_iff_eq]
  constructor
  · rintro (rfl | ⟨_, h⟩)
    · exact Dm.self to a
    · intro hr
      rw [h2.2 hr] at h
      cases h
  · intro h
    by_cases e : a = b
    · exact .inl e
    · refine .inr ⟨h.reached hb, ?_⟩
      cases hq : comeB to n [0] (a : Int) b with
      | false => rfl
      | true => exact absurd (h2.1 hq) h
/-- the ruler next to a block (the document's); -1 of block 0 -/
def isRulerB (to : Nat → List Nat) (n a b : Nat) : Bool := a != b && ruledB to n a b && (List.range n).all fun c => c == b || !ruledB to n c b || ruledB to n c a
def rulerL (to : Nat → List Nat) (n b : Nat) : Int := match (List.range n).find? (fun a => isRulerB to n a b) with
  | some a => (a : Int)
  | none => -1
theorem Rc.lt {n : Nat} (hi : Inside to n) (hn : 0 < n) {b : Nat} (h : Rc to b) : b < n := Rch.lt hi h hn
theorem isRulerB_iff {n : Nat} (hi : Inside to n) (hn : 0 < n) {a b : Nat} (hb : Rc to b) : isRulerB to n a b = true ↔ IsRuler to a b := by
  unfold isRulerB IsRuler
  rw [Bool.and_eq_true, Bool.and_eq_true, ruledB_iff hi hn hb, bne_iff_ne, List.all_eq_true, and_assoc]
  refine and_congr_right fun hne => and_congr_right fun hd => ?_
  have ha := hd.reached hb
  constructor
  · intro h c hc hcb
    have := h c (by simpa using (hcb.reached hb).lt hi hn)
    rw [Bool.or_eq_true, Bool.or_eq_true, beq_iff_eq, ruledB_iff hi hn ha, Bool.not_eq_true'] at this
    rcases this with (h1 | h1) | h1
    · exact absurd h1 hc
    · rw [(ruledB_iff hi hn hb).2 hcb] at h1; cases h1
    · exact h1
  · intro h c _
    rw [Bool.or_eq_true, Bool.or_eq_true, beq_iff_eq, ruledB_iff hi hn ha, Bool.not_eq_true']
    by_cases e : c = b
    · exact .inl (.inl e)
    · cases hq : ruledB to n c b with
      | false => exact .inl (.inr rfl)
      | true => exact .inr (h c e ((ruledB_iff hi hn hb).1 hq))
theorem rulerL_some {n : Nat} (hi : Inside to n) (hn : 0 < n) {a b : Nat} (hb : Rc to b) (h : IsRuler to a b) : rulerL to n b = (a : Int) := by
  unfold rulerL
  cases hq : (List.range n).find? (fun a => isRulerB to n a b) with
  | none =>
    have := List.find?_eq_none.1 hq a (by simpa using (h.2.1.reached hb).lt hi hn)
    exact absurd ((isRulerB_iff hi hn hb).2 h) this
  | some a' =>
    have := List.find?_some hq
    rw [((isRulerB_iff hi hn hb).1 this).uniq h hb]
theorem rulerL_zero {n : Nat} (hi : Inside to n) (hn : 0 < n) : rulerL to n 0 = -1 := by
  unfold rulerL
  cases hq : (List.range n).find? (fun a => isRulerB to n a 0) with
  | none => rfl
  | some a' =>
    have h1 := List.find?_some hq
    exact absurd ((isRulerB_iff hi hn (.here trivial)).1 h1) IsRuler.not_zero
theorem Rests.next {n : Nat} (hi : Inside to n) (hn : 0 < n) (S : Rests to od nx) {b : Nat} (hb : Rc to b) (hb0 : b ≠ 0) : nx b = rulerL to n b := by
  obtain ⟨c, hc, hr, _, _⟩ := S.ruler hb hb0
  rw [hc, rulerL_some hi hn hb hr]
/-- there is a row at rest -/
theorem ruler_is {n : Nat} (hi : Inside to n) (hn : 0 < n) {b : Nat} (hb : Rc to b) (hb0 : b ≠ 0) (S : Rests to od nx) : ∃ c : Nat, rulerL to n b = (c : Int) ∧ IsRuler to c b ∧ Rc to c ∧ od c < od b := by
  obtain ⟨c, hc, hr, h1, h2⟩ := S.ruler hb hb0
  exact ⟨c, rulerL_some hi hn hb hr, hr, h1, h2⟩
/-- The first row. -/
theorem Doms.first (h0 : nx 0 = 0) (h : ∀ b, b ≠ 0 → nx b = -1) (hz : od 0 = 0) : Doms to od nx := by
  have hn : ∀ b (c : Nat), b ≠ 0 → nx b ≠ (c : Int) := fun b c hb e => by have := h b hb; omega
  refine ⟨h0, fun b hb => ?_, fun b c hb hc => absurd hc (hn b c hb), fun b c hb hc => absurd hc (hn b c hb), fun b c hb hc => absurd hc (hn b c hb)⟩
  have : b = 0 := Classical.byContradiction fun e => hb (h b e)
  subst this
  exact ⟨.here trivial, fun e => absurd rfl e⟩
/-- What stands just above two. -/
def Meet2 (nx : Nat → Int) (a b m : Nat) : Prop := nx m ≠ -1 ∧ ∀ y, nx y ≠ -1 → ((Up nx a y ∧ Up nx b y) ↔ Up nx m y)
theorem Meet2.same {a : Nat} (h : nx a ≠ -1) : Meet2 nx a a a := ⟨h, fun y _ => ⟨fun h => h.1, fun h => ⟨h, h⟩⟩⟩
/-- one of two that has the greater number can be left -/
theorem Doms.up_lt (N : Nums to od) (I : Doms to od nx) {a b c : Nat} (ha : nx a ≠ -1) (hb : nx b ≠ -1) (h : od b < od a) (hc : nx a = (c : Int)) (y : Nat) : (Up nx a y ∧ Up nx b y) ↔ (Up nx c y ∧ Up nx b y) := by
  have ha0 : a ≠ 0 := by
    rintro rfl
    have := N.pos b (I.good b hb).1
    have := N.zero
    omega
  constructor
  · rintro ⟨h1, h2⟩
    refine ⟨h1.next ?_ hc, h2⟩
    rintro rfl
    have := (I.up_le h2 hb).2.1
    omega
  · rintro ⟨h1, h2⟩
    exact ⟨.on ha0 hc h1, h2⟩
/-- What stands above some of a list of blocks ahead. -/
def MeetL (nx : Nat → Int) (l : List Nat) (m : Nat) : Prop := nx m ≠ -1 ∧ ∀ y, nx y ≠ -1 → ((∀ p ∈ l, nx p ≠ -1 → Up nx p y) ↔ Up nx m y)
theorem MeetL.more {l : List Nat} {m m' a : Nat} (h : MeetL nx l m) (ha : nx a ≠ -1) (k : Meet2 nx m a m') : MeetL nx (l ++ [a]) m' := by
  refine ⟨k.1, fun y hy => ?_⟩
  rw [← k.2 y hy, ← h.2 y hy]
  constructor
  · intro hh
    exact ⟨fun p hp hpn => hh p (by simp [hp]) hpn, hh a (by simp) ha⟩
  · rintro ⟨h1, h2⟩ p hp hpn
    rcases List.mem_append.1 hp with hp | hp
    · exact h1 p hp hpn
    · obtain rfl : p = a := by simpa using hp
      exact h2
theorem MeetL.skip {l : List Nat} {m a : Nat} (h : MeetL nx l m) (ha : nx a = -1) : MeetL nx (l ++ [a]) m := by
  refine ⟨h.1, fun y hy => ?_⟩
  rw [← h.2 y hy]
  constructor
  · intro hh p hp hpn
    exact hh p (by simp [hp]) hpn
  · intro hh p hp hpn
    rcases List.mem_append.1 hp with hp | hp
    · exact hh p hp hpn
    · obtain rfl : p = a := by simpa using hp
      exact absurd ha hpn
theorem MeetL.first {l : List Nat} {a : Nat} (h : ∀ p ∈ l, nx p = -1) (ha : nx a ≠ -1) : MeetL nx (l ++ [a]) a := by
  refine ⟨ha, fun y hy => ⟨fun hh => hh a (by simp) ha, fun hu p hp hpn => ?_⟩⟩
  rcases List.mem_append.1 hp with hp | hp
  · exact absurd (h p hp) hpn
  · obtain rfl : p = a := by simpa using hp
    exact hu
theorem MeetL.meet {l : List Nat} {b m : Nat} (h : MeetL nx l m) (hl : ∀ p, b ∈ to p → nx p ≠ -1 → p ∈ l) (hl' : ∀ p ∈ l, b ∈ to p) : Meet to nx b m := by
  intro y hy
  rw [← h.2 y hy]
  exact ⟨fun hh p hp hpn => hh p (hl' p hp) hpn, fun hh p hp hpn => hh p (hl p hp hpn) hpn⟩
/-- The best so far, of those ahead that were gone through: none, if none is known. -/
def Best (nx : Nat → Int) (l : List Nat) (v : Int) : Prop := (v = -1 ∧ ∀ p ∈ l, nx p = -1) ∨ ∃ m : Nat, v = (m : Int) ∧ MeetL nx l m
theorem Best.nil (nx : Nat → Int) : Best nx [] (-1) := .inl ⟨rfl, by simp⟩
theorem Best.skip {l : List Nat} {v : Int} {a : Nat} (h : Best nx l v) (ha : nx a = -1) : Best nx (l ++ [a]) v := by
  rcases h with ⟨rfl, h⟩ | ⟨m, rfl, h⟩
  · refine .inl ⟨rfl, fun p hp => ?_⟩
    rcases List.mem_append.1 hp with hp | hp
    · exact h p hp
    · obtain rfl : p = a := by simpa using hp
      exact ha
  · exact .inr ⟨m, rfl, h.skip ha⟩
theorem Best.first {l : List Nat} {a : Nat} (h : Best nx l (-1)) (ha : nx a ≠ -1) : Best nx (l ++ [a]) (a : Int) := by
  rcases h with ⟨_, h⟩ | ⟨m, hm, _⟩
  · exact .inr ⟨a, rfl, MeetL.first h ha⟩
  · omega
theorem Best.more {l : List Nat} {m m' a : Nat} (h : Best nx l (m : Int)) (ha : nx a ≠ -1) (k : Meet2 nx m a m') : Best nx (l ++ [a]) (m' : Int) := by
  rcases h with ⟨hm, _⟩ | ⟨m2, hm, h⟩
  · omega
  · obtain rfl : m = m2 := by omega
    exact .inr ⟨m', rfl, h.more ha k⟩
theorem Best.known {l : List Nat} {m : Nat} (h : Best nx l (m : Int)) : nx m ≠ -1 := by
  rcases h with ⟨hm, _⟩ | ⟨m2, hm, h⟩
  · omega
  · obtain rfl : m = m2 := by omega
    exact h.1
end
end Go.Proofs.YtjbnabjjbofhjaaDoor.Fes
