/- Rulers of blocks: a row of each block's next ruler, turned round by round until it rests, says what rules what. Plain Lean. -/
import Derived.Test.YtjbnabjjbofhjaaDoorPc
set_option linter.unusedVariables false
namespace Go.Proofs.YtjbnabjjbofhjaaDoor.Fes

/-- a rules b: without going through it b can't be come to. -/
def Dm (to : Nat → List Nat) (a b : Nat) : Prop := ¬ Rch to (fun x => x ≠ a) 0 b
def Rc (to : Nat → List Nat) (b : Nat) : Prop := Rch to every 0 b
theorem Dm.self (to : Nat → List Nat) (b : Nat) : Dm to b b := fun h => h.last rfl
theorem Dm.zero {to : Nat → List Nat} {a : Nat} (h : Dm to a 0) : a = 0 := Classical.byContradiction fun hn => h (.here fun e => hn e.symm)
theorem Dm.first (to : Nat → List Nat) (b : Nat) : Dm to 0 b := fun h => h.first rfl
/-- What rules one that is reached is reached. -/
theorem Dm.reached {to : Nat → List Nat} {a b : Nat} (h : Dm to a b) (hb : Rc to b) : Rc to a := by
  have key : ∀ x, Rch to every 0 x → Rch to (fun x => x ≠ a) 0 x ∨ Rc to a := by
    intro x hx
    induction hx with
    | here _ =>
      by_cases e : (0 : Nat) = a
      · subst e; exact .inr (.here trivial)
      · exact .inl (.here e)
    | @on y z h1 hc _ ih =>
      rcases ih with ih | ih
      · by_cases e : z = a
        · subst e; exact .inr (.on h1 hc trivial)
        · exact .inl (ih.on hc e)
      · exact .inr ih
  rcases key b hb with h' | h'
  · exact absurd h' h
  · exact h'
theorem Dm.trans {to : Nat → List Nat} {a b c : Nat} (h : Dm to a b) (k : Dm to b c) : Dm to a c := by
  intro hr
  have key : ∀ x, Rch to (fun x => x ≠ a) 0 x → Rch to (fun x => x ≠ b) 0 x ∨ Rch to (fun x => x ≠ a) 0 b := by
    intro x hx
    induction hx with
    | here h0 =>
      by_cases e : (0 : Nat) = b
      · subst e; exact .inr (.here h0)
      · exact .inl (.here e)
    | @on y z h1 hc ho ih =>
      rcases ih with ih | ih
      · by_cases e : z = b
        · subst e; exact .inr (.on h1 hc ho)
        · exact .inl (ih.on hc e)
      · exact .inr ih
  rcases key c hr with h' | h'
  · exact k h'
  · exact h h'
/-- Two unlike ones that are reached don't rule each other. -/
theorem Dm.antisymm {to : Nat → List Nat} {a b : Nat} (h : Dm to a b) (k : Dm to b a) (hb : Rc to b) : a = b := by
  refine Classical.byContradiction fun hne => ?_
  have key : ∀ x, Rch to every 0 x → Rch to (fun x => x ≠ a) 0 x ∨ Rch to (fun x => x ≠ b) 0 a ∨ Rch to (fun x => x ≠ a) 0 b := by
    have step : ∀ x, Rch to every 0 x → (Rch to (fun x => x ≠ a) 0 x ∧ Rch to (fun x => x ≠ b) 0 x) ∨ Rch to (fun x => x ≠ b) 0 a ∨ Rch to (fun x => x ≠ a) 0 b := by
      intro x hx
      induction hx with
      | here _ =>
        by_cases ea : (0 : Nat) = a
        · subst ea; exact .inr (.inl (.here (fun e => hne e)))
        · by_cases eb : (0 : Nat) = b
          · subst eb; exact .inr (.inr (.here (fun e => hne e.symm)))
          · exact .inl ⟨.here ea, .here eb⟩
      | @on y z h1 hc _ ih =>
        rcases ih with ⟨i1, i2⟩ | ih
        · by_cases ea : z = a
          · subst ea; exact .inr (.inl (i2.on hc hne))
          · by_cases eb : z = b
            · subst eb; exact .inr (.inr (i1.on hc (fun e => hne e.symm)))
            · exact .inl ⟨i1.on hc ea, i2.on hc eb⟩
        · exact .inr ih
    intro x hx
    rcases step x hx with ⟨i1, _⟩ | h
    · exact .inl i1
    · exact .inr h
  rcases key b hb with h' | h' | h'
  · exact h h'
  · exact k h'
  · exact h h'
/-- Of two that rule one, one rules the other. -/
theorem Dm.total {to : Nat → List Nat} {a b c : Nat} (h : Dm to a c) (k : Dm to b c) (hc : Rc to c) : Dm to a b ∨ Dm to b a := by
  refine Classical.byContradiction fun hn => ?_
  have h1 : Rch to (fun x => x ≠ a) 0 b := Classical.byContradiction fun e => hn (.inl e)
  have h2 : Rch to (fun x => x ≠ b) 0 a := Classical.byContradiction fun e => hn (.inr e)
  -- a way to c: behind the last of a and b
  have key : ∀ x, Rch to every 0 x → Rch to (fun x => x ≠ a) 0 x ∨ Rch to (fun x => x ≠ b) 0 x := by
    intro x hx
    induction hx with
    | here _ =>
      by_cases e : (0 : Nat) = a
      · subst e
        by_cases e2 : (0 : Nat) = b
        · subst e2; exact absurd rfl h1.last
        · exact .inr (.here e2)
      · exact .inl (.here e)
    | @on y z hx' hcz _ ih =>
      by_cases ea : z = a
      · subst ea; exact .inr h2
      · by_cases eb : z = b
        · subst eb; exact .inl h1
        · rcases ih with ih | ih
          · exact .inl (ih.on hcz ea)
          · exact .inr (ih.on hcz eb)
  rcases key c hc with h' | h'
  · exact h h'
  · exact k h'
/-- Ahead of a block. -/
theorem Dm.ahead {to : Nat → List Nat} {a b p : Nat} (h : Dm to a b) (hb : b ∈ to p) (hab : a ≠ b) : Dm to a p := fun hr => h (hr.on hb (fun e => hab e.symm))
theorem Dm.of_ahead {to : Nat → List Nat} {a b : Nat} (hb0 : b ≠ 0) (h : ∀ p, b ∈ to p → Rc to p → Dm to a p) : Dm to a b := by
  intro hr
  cases hr with
  | here _ => exact hb0 rfl
  | @on p _ h1 hc _ => exact h p hc (h1.mono fun _ _ => trivial) h1

/-- A numbering of what is reached, by which each but block 0 has one ahead with a smaller number. -/
structure Nums (to : Nat → List Nat) (od : Nat → Int) : Prop where
  zero : od 0 = 0
  pos : ∀ b, Rc to b → 0 ≤ od b
  inj : ∀ a b, Rc to a → Rc to b → od a = od b → a = b
  fwd : ∀ b, Rc to b → b ≠ 0 → ∃ a, Rc to a ∧ b ∈ to a ∧ od a < od b
def fto (to : Nat → List Nat) (od : Nat → Int) (a : Nat) : List Nat := (to a).filter fun c => decide (od a < od c)
theorem mem_fto {to : Nat → List Nat} {od : Nat → Int} {a c : Nat} : c ∈ fto to od a ↔ c ∈ to a ∧ od a < od c := by simp [fto]
theorem fto_rc {to : Nat → List Nat} {od : Nat → Int} {ok : Nat → Prop} {a b : Nat} (ha : Rc to a) (h : Rch (fto to od) ok a b) : Rc to b := by
  induction h with
  | here _ => exact ha
  | on _ hc _ ih => exact ih.on (mem_fto.1 hc).1 trivial
theorem fto_le {to : Nat → List Nat} {od : Nat → Int} {ok : Nat → Prop} {a b : Nat} (h : Rch (fto to od) ok a b) : od a ≤ od b := by
  induction h with
  | here _ => omega
  | on _ hc _ ih => have := (mem_fto.1 hc).2; omega
theorem Nums.forth {to : Nat → List Nat} {od : Nat → Int} (N : Nums to od) : ∀ (k : Nat) (b : Nat), Rc to b → od b < k → Rch (fto to od) every 0 b := by
  intro k
  induction k with
  | zero => intro b hb h; have := N.pos b hb; omega
  | succ k ih =>
    intro b hb h
    by_cases e : b = 0
    · subst e; exact .here trivial
    · obtain ⟨a, ha, hab, hlt⟩ := N.fwd b hb e
      exact (ih a ha (by omega)).on (mem_fto.2 ⟨hab, hlt⟩) trivial
theorem Nums.go {to : Nat → List Nat} {od : Nat → Int} (N : Nums to od) (b : Nat) (hb : Rc to b) : Rch (fto to od) every 0 b :=
  N.forth ((od b).toNat + 1) b hb (by have := N.pos b hb; omega)
/-- Ruling by the ways on which numbers rise. -/
def Fd (to : Nat → List Nat) (od : Nat → Int) (a b : Nat) : Prop := ¬ Rch (fto to od) (fun x => x ≠ a) 0 b
theorem Fd.way {to : Nat → List Nat} {od : Nat → Int} (N : Nums to od) {c b : Nat} (h : Fd to od c b) (hb : Rc to b) : Rch (fto to od) every c b := by
  have key : ∀ x, Rch (fto to od) every 0 x → Rch (fto to od) (fun x => x ≠ c) 0 x ∨ Rch (fto to od) every c x := by
    intro x hx
    induction hx with
    | here _ =>
      by_cases e : (0 : Nat) = c
      · subst e; exact .inr (.here trivial)
      · exact .inl (.here e)
    | @on y z h1 hc _ ih =>
      by_cases e : z = c
      · subst e; exact .inr (.here trivial)
      · rcases ih with ih | ih
        · exact .inl (ih.on hc e)
        · exact .inr (ih.on hc trivial)
  rcases key b (N.go b hb) with h' | h'
  · exact absurd h' h
  · exact h'

/-- y is x, or its next ruler, or that's, and so on. -/
inductive Up (nx : Nat → Int) : Nat → Nat → Prop
  | here (x : Nat) : Up nx x x
  | on {x c y : Nat} : x ≠ 0 → nx x = (c : Int) → Up nx c y → Up nx x y
theorem Up.trans {nx : Nat → Int} {a b c : Nat} (h : Up nx a b) (k : Up nx b c) : Up nx a c := by
  induction h with
  | here _ => exact k
  | on h0 h1 _ ih => exact .on h0 h1 (ih k)
theorem Up.zero {nx : Nat → Int} {y : Nat} (h : Up nx 0 y) : y = 0 := by
  cases h with
  | here => rfl
  | on h0 _ _ => exact absurd rfl h0
theorem Up.next {nx : Nat → Int} {x c y : Nat} (h : Up nx x y) (hne : y ≠ x) (hc : nx x = (c : Int)) : Up nx c y := by
  cases h with
  | here => exact absurd rfl hne
  | @on _ d _ h0 h1 h2 =>
    obtain rfl : d = c := by omega
    exact h2

/-- What holds of the rows at any time. -/
structure Doms (to : Nat → List Nat) (od : Nat → Int) (nx : Nat → Int) : Prop where
  root : nx 0 = 0
  good : ∀ b, nx b ≠ -1 → Rc to b ∧ (b ≠ 0 → ∃ c : Nat, nx b = (c : Int) ∧ nx c ≠ -1 ∧ od c < od b)
  keep : ∀ b c : Nat, b ≠ 0 → nx b = (c : Int) → ∀ d, Dm to d b → d ≠ b → Dm to d c
  fd : ∀ b c : Nat, b ≠ 0 → nx b = (c : Int) → Fd to od c b
  near : ∀ b c : Nat, b ≠ 0 → nx b = (c : Int) → ∀ y, nx y ≠ -1 → (∀ p, b ∈ to p → nx p ≠ -1 → Up nx p y) → od y ≤ od c
/-- What holds of those that were turned in this round: of numbers below j. -/
structure Upto (to : Nat → List Nat) (od : Nat → Int) (nx : Nat → Int) (j : Int) : Prop where
  all : ∀ b, Rc to b → od b < j → nx b ≠ -1
  edge : ∀ z c a : Nat, z ≠ 0 → nx z = (c : Int) → od z < j → nx a ≠ -1 → z ∈ to a → od a < od z → Up nx a c

theorem Doms.up_le {to : Nat → List Nat} {od nx : Nat → Int} (I : Doms to od nx) {a y : Nat} (h : Up nx a y) (ha : nx a ≠ -1) : nx y ≠ -1 ∧ od y ≤ od a ∧ (od y = od a → y = a) := by
  induction h with
  | here x => exact ⟨ha, by omega, fun _ => rfl⟩
  | @on x c y h0 h1 _ ih =>
    obtain ⟨c', hc', hn, hlt⟩ := (I.good x ha).2 h0
    obtain rfl : c' = c := by omega
    obtain ⟨i1, i2, i3⟩ := ih hn
    exact ⟨i1, by omega, fun e => by omega⟩
/-- Each that is known comes up to block 0. -/
theorem Doms.to_zero {to : Nat → List Nat} {od nx : Nat → Int} (N : Nums to od) (I : Doms to od nx) : ∀ (k : Nat) (b : Nat), nx b ≠ -1 → od b < k → Up nx b 0 := by
  intro k
  induction k with
  | zero => intro b hb h; have := N.pos b (I.good b hb).1; omega
  | succ k ih =>
    intro b hb h
    by_cases e : b = 0
    · subst e; exact .here 0
    · obtain ⟨c, hc, hn, hlt⟩ := (I.good b hb).2 e
      exact .on e hc (ih c hn (by omega))
/-- What rules one stands above it. -/
theorem Doms.dm_up {to : Nat → List Nat} {od nx : Nat → Int} (N : Nums to od) (I : Doms to od nx) : ∀ (k : Nat) (b : Nat), nx b ≠ -1 → od b < k → ∀ d, Dm to d b → Up nx b d := by
  intro k
  induction k with
  | zero => intro b hb h; have := N.pos b (I.good b hb).1; omega
  | succ k ih =>
    intro b hb h d hd
    by_cases e : d = b
    · subst e; exact .here d
    · have hb0 : b ≠ 0 := by rintro rfl; exact e hd.zero
      obtain ⟨c, hc, hn, hlt⟩ := (I.good b hb).2 hb0
      exact .on hb0 hc (ih c hn (by omega) d (I.keep b c hb0 hc d hd e))
/-- .. and rules each between. -/
theorem Doms.dm_between {to : Nat → List Nat} {od nx : Nat → Int} (N : Nums to od) (I : Doms to od nx) {p m : Nat} (h : Up nx p m) : nx p ≠ -1 → ∀ d, Dm to d p → Up nx m d → Dm to d m := by
  induction h with
  | here x => intro _ d hd _; exact hd
  | @on x c y h0 h1 h2 ih =>
    intro hx d hd hu
    obtain ⟨c', hc', hn, hlt⟩ := (I.good x hx).2 h0
    obtain rfl : c' = c := by omega
    by_cases e : d = x
    · subst e
      obtain ⟨i1, i2, i3⟩ := I.up_le h2 hn
      obtain ⟨j1, j2, j3⟩ := I.up_le hu i1
      exfalso; omega
    · exact ih hn d (I.keep x c' h0 h1 d hd e) hu
theorem Doms.fd_up {to : Nat → List Nat} {od nx : Nat → Int} (I : Doms to od nx) {p m : Nat} (h : Up nx p m) : Fd to od m p := by
  induction h with
  | here x => exact fun h => h.last rfl
  | @on x c y h0 h1 _ ih =>
    -- y rules c, c rules x
    have hcx := I.fd x c h0 h1
    intro hr
    have key : ∀ z, Rch (fto to od) (fun w => w ≠ y) 0 z → Rch (fto to od) (fun w => w ≠ c) 0 z ∨ Rch (fto to od) (fun w => w ≠ y) 0 c := by
      intro z hz
      induction hz with
      | here hh =>
        by_cases e : (0 : Nat) = c
        · subst e; exact .inr (.here hh)
        · exact .inl (.here e)
      | @on z2 z3 k1 k2 k3 kh =>
        rcases kh with kh | kh
        · by_cases e : z3 = c
          · subst e; exact .inr (.on k1 k2 k3)
          · exact .inl (kh.on k2 e)
        · exact .inr kh
    rcases key x hr with h' | h'
    · exact hcx h'
    · exact ih h'

/-- The row with one turned. -/
def turned (nx : Nat → Int) (b m : Nat) : Nat → Int := fun x => if x = b then (m : Int) else nx x
/-- m stands just above all that are known ahead of b. -/
def Meet (to : Nat → List Nat) (nx : Nat → Int) (b m : Nat) : Prop := ∀ y, nx y ≠ -1 → ((∀ p, b ∈ to p → nx p ≠ -1 → Up nx p y) ↔ Up nx m y)

section
variable {to : Nat → List Nat} {od nx : Nat → Int} {b m : Nat}

theorem Doms.back (N : Nums to od) (I : Doms to od nx) {j : Int} (U : Upto to od nx j) {c : Nat} (hc : nx c ≠ -1) {y : Nat} (hle : od y ≤ od c) :
    ∀ a, Rch (fto to od) every c a → od a < j → Up nx a y → Up nx c y := by
  intro a h
  induction h with
  | here _ => intro _ h; exact h
  | @on a' a h1 h2 _ ih =>
    intro hj hu
    have hcr := (I.good _ hc).1
    have ha'r := fto_rc hcr h1
    have hlt := (mem_fto.1 h2).2
    have hle' := fto_le h1
    have har : Rc to a := ha'r.on (mem_fto.1 h2).1 trivial
    have han := U.all a har hj
    have ha'n := U.all a' ha'r (by omega)
    have hp := N.pos _ hcr
    have ha0 : a ≠ 0 := by rintro rfl; have := N.zero; omega
    obtain ⟨d, hd, hdn, hdl⟩ := (I.good a han).2 ha0
    have hy : y ≠ a := by rintro rfl; omega
    have h3 := hu.next hy hd
    exact ih (by omega) ((U.edge a d a' ha0 hd hj ha'n (mem_fto.1 h2).1 hlt).trans h3)

/-- What a block's turn does. -/
theorem Doms.turn (N : Nums to od) (I : Doms to od nx) (U : Upto to od nx (od b)) (hb : Rc to b) (hb0 : b ≠ 0) (hm : nx m ≠ -1) (hM : Meet to nx b m) :
    od m < od b ∧ Doms to od (turned nx b m) ∧ Upto to od (turned nx b m) (od b + 1) ∧ (∀ c : Nat, nx b = (c : Int) → od m ≤ od c) := by
  -- one ahead with a smaller number
  obtain ⟨p0, hp0, hp0b, hp0l⟩ := N.fwd b hb hb0
  have hp0n := U.all p0 hp0 hp0l
  have hall := (hM m hm).2 (.here m)
  have hmp0 := hall p0 hp0b hp0n
  obtain ⟨_, hm0, _⟩ := I.up_le hmp0 hp0n
  have hmb : od m < od b := by omega
  have hmr := (I.good m hm).1
  have hmne : m ≠ b := by rintro rfl; omega
  -- the old ruler's number is no smaller; it is above
  have hold : ∀ c : Nat, nx b = (c : Int) → od m ≤ od c := fun c hc => I.near b c hb0 hc m hm hall
  have habove : ∀ c : Nat, nx b = (c : Int) → Up nx c m := by
    intro c hc
    have hbn : nx b ≠ -1 := by omega
    obtain ⟨c', hc', hcn, hcl⟩ := (I.good b hbn).2 hb0
    obtain rfl : c' = c := by omega
    have hw := (I.fd b c' hb0 hc).way N hb
    cases hw with
    | here _ => omega
    | @on a _ h1 h2 _ =>
      have hlt := (mem_fto.1 h2).2
      have har := fto_rc (I.good c' hcn).1 h1
      exact I.back N U hcn (hold c' hc) a h1 hlt (hall a (mem_fto.1 h2).1 (U.all a har hlt))
  -- chains only shrink
  have htn : ∀ x, nx x ≠ -1 → turned nx b m x ≠ -1 := by
    intro x hx
    unfold turned
    split
    · omega
    · exact hx
  -- a chain that does not meet b stays
  have stay : ∀ x y, Up nx x y → od x < od b → nx x ≠ -1 → Up (turned nx b m) x y := by
    intro x y h
    induction h with
    | here x => intro _ _; exact .here x
    | @on x c y h0 h1 _ ih =>
      intro hx hxn
      obtain ⟨c', hc', hcn, hcl⟩ := (I.good x hxn).2 h0
      obtain rfl : c' = c := by omega
      refine .on h0 ?_ (ih (by omega) hcn)
      unfold turned
      rw [if_neg (by rintro rfl; omega)]
      exact h1
  have stay' : ∀ x y, Up (turned nx b m) x y → od x < od b → nx x ≠ -1 → Up nx x y := by
    intro x y h
    induction h with
    | here x => intro _ _; exact .here x
    | @on x c y h0 h1 _ ih =>
      intro hx hxn
      have hxb : x ≠ b := by rintro rfl; omega
      have h1' : nx x = (c : Int) := by unfold turned at h1; rwa [if_neg hxb] at h1
      obtain ⟨c', hc', hcn, hcl⟩ := (I.good x hxn).2 h0
      obtain rfl : c' = c := by omega
      exact .on h0 h1' (ih (by omega) hcn)
  have shrink : ∀ x y, Up (turned nx b m) x y → (x ≠ b → nx x ≠ -1) → nx b ≠ -1 ∨ True → (x = b → nx b = -1 → y = b ∨ Up nx m y) ∧ (nx x ≠ -1 → Up nx x y) := by
    intro x y h
    induction h with
    | here x => intro _ _; exact ⟨fun e _ => .inl e, fun _ => .here x⟩
    | @on x c y h0 h1 h2 ih =>
      intro hxn _
      by_cases hxb : x = b
      · subst hxb
        have hcm : c = m := by unfold turned at h1; rw [if_pos rfl] at h1; omega
        subst hcm
        have hu := stay' c y h2 hmb hm
        refine ⟨fun _ _ => .inr hu, fun hn => ?_⟩
        obtain ⟨d, hd, hdn, _⟩ := (I.good x hn).2 h0
        exact .on h0 hd ((habove d hd).trans hu)
      · have h1' : nx x = (c : Int) := by unfold turned at h1; rwa [if_neg hxb] at h1
        refine ⟨fun e => absurd e hxb, fun hn => ?_⟩
        obtain ⟨d, hd, hdn, _⟩ := (I.good x hn).2 h0
        obtain rfl : d = c := by omega
        exact .on h0 h1' ((ih (fun _ => hdn) (.inr trivial)).2 hdn)
  refine ⟨hmb, ⟨?_, ?_, ?_, ?_, ?_⟩, ⟨?_, ?_⟩, hold⟩
  · unfold turned; rw [if_neg (fun e => hb0 e.symm)]; exact I.root
  · intro x hx
    by_cases hxb : x = b
    · subst hxb
      refine ⟨hb, fun _ => ⟨m, by unfold turned; rw [if_pos rfl], htn m hm, hmb⟩⟩
    · have hx' : nx x ≠ -1 := by unfold turned at hx; rwa [if_neg hxb] at hx
      obtain ⟨h1, h2⟩ := I.good x hx'
      refine ⟨h1, fun h0 => ?_⟩
      obtain ⟨c, hc, hcn, hcl⟩ := h2 h0
      exact ⟨c, by unfold turned; rw [if_neg hxb]; exact hc, htn c hcn, hcl⟩
  · intro x c h0 hc d hd hdx
    by_cases hxb : x = b
    · subst hxb
      have hcm : c = m := by unfold turned at hc; rw [if_pos rfl] at hc; omega
      subst hcm
      have hdp : Dm to d p0 := hd.ahead hp0b hdx
      have hdn : ∀ p, x ∈ to p → nx p ≠ -1 → Up nx p d := fun p hp hpn => I.dm_up N ((od p).toNat + 1) p hpn (by have := N.pos p (I.good p hpn).1; omega) d (hd.ahead hp hdx)
      have hdk : nx d ≠ -1 := (I.up_le (hdn p0 hp0b hp0n) hp0n).1
      exact I.dm_between N hmp0 hp0n d hdp ((hM d hdk).1 hdn)
    · have h1' : nx x = (c : Int) := by unfold turned at hc; rwa [if_neg hxb] at hc
      exact I.keep x c h0 h1' d hd hdx
  · intro x c h0 hc
    by_cases hxb : x = b
    · subst hxb
      have hcm : c = m := by unfold turned at hc; rw [if_pos rfl] at hc; omega
      subst hcm
      intro hr
      cases hr with
      | here _ => exact h0 rfl
      | @on a _ h1 h2 _ =>
        have hlt := (mem_fto.1 h2).2
        have har := fto_rc (.here trivial) h1
        exact I.fd_up (hall a (mem_fto.1 h2).1 (U.all a har hlt)) h1
    · have h1' : nx x = (c : Int) := by unfold turned at hc; rwa [if_neg hxb] at hc
      exact I.fd x c h0 h1'
  · intro x c h0 hc y hy hall'
    -- y, as it was
    have hyn : y ≠ b → nx y ≠ -1 := by intro e; unfold turned at hy; rwa [if_neg e] at hy
    by_cases hxb : x = b
    · subst hxb
      have hcm : c = m := by unfold turned at hc; rw [if_pos rfl] at hc; omega
      subst hcm
      -- y is above p0
      have hyp0 := stay' p0 y (hall' p0 hp0b (htn p0 hp0n)) hp0l hp0n
      obtain ⟨hyn', hyl, _⟩ := I.up_le hyp0 hp0n
      have : ∀ p, x ∈ to p → nx p ≠ -1 → Up nx p y := fun p hp hpn => (shrink p y (hall' p hp (htn p hpn)) (fun _ => hpn) (.inr trivial)).2 hpn
      exact (I.up_le ((hM y hyn').1 this) hm).2.1
    · have h1' : nx x = (c : Int) := by unfold turned at hc; rwa [if_neg hxb] at hc
      have hxr := (I.good x (by omega)).1
      by_cases hyb : y = b
      · subst hyb
        by_cases hbn : nx y = -1
        · -- y was not known: no one known stood below it
          obtain ⟨q, hq, hqx, hql⟩ := N.fwd x hxr h0
          exfalso
          have hxn : nx x ≠ -1 := by omega
          -- some one ahead of x that is known: by near, at block 0
          by_cases hk : ∃ p, x ∈ to p ∧ nx p ≠ -1
          · obtain ⟨p, hp, hpn⟩ := hk
            have := (shrink p y (hall' p hp (htn p hpn)) (fun _ => hpn) (.inr trivial)).2 hpn
            exact (I.up_le this hpn).1 hbn
          · -- then all stand above: near says any number is small
            have hbig := I.near x c h0 h1' x hxn (fun p hp hpn => absurd ⟨p, hp, hpn⟩ hk)
            obtain ⟨c', hc', _, hcl⟩ := (I.good x hxn).2 h0
            obtain rfl : c' = c := by omega
            omega
        · exact I.near x c h0 h1' y hbn (fun p hp hpn => (shrink p y (hall' p hp (htn p hpn)) (fun _ => hpn) (.inr trivial)).2 hpn)
      · exact I.near x c h0 h1' y (hyn hyb) (fun p hp hpn => (shrink p y (hall' p hp (htn p hpn)) (fun _ => hpn) (.inr trivial)).2 hpn)
  · intro x hx hlt
    by_cases hxb : x = b
    · subst hxb; unfold turned; rw [if_pos rfl]; omega
    · have : od x ≠ od b := fun e => hxb (N.inj x b hx hb e)
      exact htn x (U.all x hx (by omega))
  · intro z c a hz0 hc hzj ha hza hal
    by_cases hzb : z = b
    · subst hzb
      have hcm : c = m := by unfold turned at hc; rw [if_pos rfl] at hc; omega
      subst hcm
      have han : nx a ≠ -1 := by unfold turned at ha; rwa [if_neg (by rintro rfl; omega)] at ha
      exact stay a c (hall a hza han) hal han
    · have h1' : nx z = (c : Int) := by unfold turned at hc; rwa [if_neg hzb] at hc
      have hzr := (I.good z (by omega)).1
      have : od z ≠ od b := fun e => hzb (N.inj z b hzr hb e)
      have hab : a ≠ b := by rintro rfl; omega
      have han : nx a ≠ -1 := by unfold turned at ha; rwa [if_neg hab] at ha
      exact stay a c (U.edge z c a hz0 h1' (by omega) han hza hal) (by omega) han
end

/-- A row that rests says what rules what. -/
theorem Doms.rest {to : Nat → List Nat} {od nx : Nat → Int} (N : Nums to od) (I : Doms to od nx) (hk : ∀ b, Rc to b → nx b ≠ -1)
    (hf : ∀ b c : Nat, Rc to b → b ≠ 0 → nx b = (c : Int) → Meet to nx b c) {a b : Nat} (hb : Rc to b) : Up nx b a ↔ Dm to a b := by
  constructor
  · intro hu hr
    have key : ∀ x, Rch to (fun x => x ≠ a) 0 x → ¬ Up nx x a := by
      intro x hx
      induction hx with
      | here h0 => exact fun h => h0 h.zero.symm
      | @on p c h1 hc ho ih =>
        intro h
        have hcr : Rc to c := (h1.mono fun _ _ => trivial).on hc trivial
        have hpr : Rc to p := h1.mono fun _ _ => trivial
        have hc0 : c ≠ 0 := by rintro rfl; exact ho h.zero.symm
        obtain ⟨d, hd, hdn, _⟩ := (I.good c (hk c hcr)).2 hc0
        have han := (I.up_le h (hk c hcr)).1
        exact ih (((hf c d hcr hc0 hd) a han).2 (h.next (fun e => ho e.symm) hd) p hc (hk p hpr))
    exact key b hr hu
  · exact I.dm_up N ((od b).toNat + 1) b (hk b hb) (by have := N.pos b hb; omega) a
end Go.Proofs.YtjbnabjjbofhjaaDoor.Fes
