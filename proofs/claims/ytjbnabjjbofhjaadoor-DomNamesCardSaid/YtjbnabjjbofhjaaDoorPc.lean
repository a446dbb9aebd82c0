/- What is come to, by rounds (the reference's way). Plain Lean. -/
import Derived.Test.YtjbnabjjbofhjaaDoorPg
set_option linter.unusedVariables false
namespace Go.Proofs.YtjbnabjjbofhjaaDoor.Fes

def okB (but : Int) (x : Nat) : Prop := (x : Int) ≠ but
/-- one block's edges -/
def relax (to : Nat → List Nat) (but : Int) (s : Nat → Bool) (i : Nat) : Nat → Bool := fun c => s c || (s i && (to i).contains c && decide ((c : Int) ≠ but))
def sweep (to : Nat → List Nat) (but : Int) (n : Nat) (s : Nat → Bool) : Nat → Bool := (List.range n).foldl (relax to but) s
def sweeps (to : Nat → List Nat) (but : Int) (n : Nat) : Nat → (Nat → Bool) → Nat → Bool
  | 0, s => s
  | k + 1, s => sweep to but n (sweeps to but n k s)
def start (first : List Nat) (but : Int) : Nat → Bool := fun x => first.contains x && decide ((x : Int) ≠ but)
def comeB (to : Nat → List Nat) (n : Nat) (first : List Nat) (but : Int) : Nat → Bool := sweeps to but n n (start first but)

theorem relax_inc (to : Nat → List Nat) (but : Int) (s : Nat → Bool) (i x : Nat) (h : s x = true) : relax to but s i x = true := by simp [relax, h]
theorem foldl_relax_inc (to : Nat → List Nat) (but : Int) : ∀ (l : List Nat) (s : Nat → Bool) (x : Nat), s x = true → l.foldl (relax to but) s x = true
  | [], _, _, h => h
  | i :: l, s, x, h => foldl_relax_inc to but l _ x (relax_inc to but s i x h)
theorem sweep_inc (to : Nat → List Nat) (but : Int) (n : Nat) (s : Nat → Bool) (x : Nat) (h : s x = true) : sweep to but n s x = true := foldl_relax_inc to but _ s x h
/-- If nothing was turned, it is closed. -/
theorem foldl_relax_rest (to : Nat → List Nat) (but : Int) : ∀ (l : List Nat) (s : Nat → Bool), l.foldl (relax to but) s = s → ∀ i ∈ l, relax to but s i = s
  | [], _, _, _, h => by simp at h
  | j :: l, s, h, i, hi => by
    have hj : relax to but s j = s := by
      funext x
      cases hx : s x with
      | true => exact relax_inc to but s j x hx
      | false =>
        cases hr : relax to but s j x with
        | false => rfl
        | true =>
          have := foldl_relax_inc to but l _ x hr
          rw [List.foldl_cons] at h
          rw [h, hx] at this
          cases this
    rcases List.mem_cons.1 hi with rfl | hi
    · exact hj
    · rw [List.foldl_cons, hj] at h
      exact foldl_relax_rest to but l s h i hi
theorem foldl_relax_out (to : Nat → List Nat) (but : Int) (n : Nat) (hi : Inside to n) : ∀ (l : List Nat) (s : Nat → Bool), (∀ i ∈ l, i < n) → (∀ x, n ≤ x → s x = false) → ∀ x, n ≤ x → l.foldl (relax to but) s x = false
  | [], _, _, h => h
  | j :: l, s, hl, h => by
    refine foldl_relax_out to but n hi l _ (fun i hi => hl i (by simp [hi])) ?_
    intro x hx
    have hj := hl j (by simp)
    have : ¬ x ∈ to j := fun hc => by have := hi j hj x hc; omega
    simp [relax, h x hx, this]
theorem sweeps_out (to : Nat → List Nat) (but : Int) (n : Nat) (hi : Inside to n) (s : Nat → Bool) (h : ∀ x, n ≤ x → s x = false) : ∀ k x, n ≤ x → sweeps to but n k s x = false
  | 0, x, hx => h x hx
  | k + 1, x, hx => foldl_relax_out to but n hi _ _ (fun i hi => by simpa using hi) (sweeps_out to but n hi s h k) x hx
theorem foldl_relax_come (to : Nat → List Nat) (but : Int) (first : List Nat) : ∀ (l : List Nat) (s : Nat → Bool), (∀ x, s x = true → ∃ b ∈ first, Rch to (okB but) b x) → ∀ x, l.foldl (relax to but) s x = true → ∃ b ∈ first, Rch to (okB but) b x
  | [], _, h => h
  | j :: l, s, h => by
    refine foldl_relax_come to but first l _ ?_
    intro x hx
    simp only [relax, Bool.or_eq_true, Bool.and_eq_true, List.contains_eq_mem, decide_eq_true_eq] at hx
    rcases hx with hx | ⟨⟨hj, hc⟩, hb⟩
    · exact h x hx
    · obtain ⟨b, hbf, hr⟩ := h j hj
      exact ⟨b, hbf, hr.on hc hb⟩
theorem sweeps_come (to : Nat → List Nat) (but : Int) (n : Nat) (first : List Nat) (s : Nat → Bool) (h : ∀ x, s x = true → ∃ b ∈ first, Rch to (okB but) b x) : ∀ k x, sweeps to but n k s x = true → ∃ b ∈ first, Rch to (okB but) b x
  | 0 => h
  | k + 1 => foldl_relax_come to but first _ _ (sweeps_come to but n first s h k)

theorem come_iff (to : Nat → List Nat) (n : Nat) (hi : Inside to n) (first : List Nat) (hf : ∀ b ∈ first, b < n) (but : Int) (x : Nat) : comeB to n first but x = true ↔ ∃ b ∈ first, Rch to (okB but) b x := by
  have hstart : ∀ x, start first but x = true ↔ x ∈ first ∧ (x : Int) ≠ but := by intro x; simp [start]
  constructor
  · refine sweeps_come to but n first _ ?_ n x
    intro y hy
    obtain ⟨h1, h2⟩ := (hstart y).1 hy
    exact ⟨y, h1, .here h2⟩
  · rintro ⟨b, hb, hr⟩
    have hout := sweeps_out to but n hi (start first but) (fun y hy => by
      cases h : start first but y with
      | false => rfl
      | true => have := hf y ((hstart y).1 h).1; omega)
    have hfix : ∀ i, i < n → sweeps to but n (n + 1) (start first but) i = sweeps to but n n (start first but) i := by
      refine chain_fix n (fun k => sweeps to but n k (start first but)) (fun k i _ h => sweep_inc to but n _ i h) (fun k h => ?_)
      have he : sweeps to but n (k + 1) (start first but) = sweeps to but n k (start first but) := by
        funext y
        rcases Nat.lt_or_ge y n with hy | hy
        · exact h y hy
        · rw [hout _ y hy, hout _ y hy]
      intro i _
      show sweep to but n (sweeps to but n (k + 1) (start first but)) i = _
      rw [he]
      exact congrFun he i
    have hfx : sweep to but n (comeB to n first but) = comeB to n first but := by
      funext y
      rcases Nat.lt_or_ge y n with hy | hy
      · exact hfix y hy
      · show sweeps to but n (n + 1) (start first but) y = sweeps to but n n (start first but) y
        rw [hout _ y hy, hout _ y hy]
    have hb0 : comeB to n first but b = true := by
      have h0 : start first but b = true := (hstart b).2 ⟨hb, hr.first⟩
      have : ∀ k, sweeps to but n k (start first but) b = true := by
        intro k
        induction k with
        | zero => exact h0
        | succ k ih => exact sweep_inc to but n _ b ih
      exact this n
    have hlt : ∀ y, comeB to n first but y = true → y < n := by
      intro y hy
      rcases Nat.lt_or_ge y n with h | h
      · exact h
      · have := hout n y h
        rw [show sweeps to but n n (start first but) y = comeB to n first but y from rfl, hy] at this
        cases this
    refine hr.closed (S := fun y => comeB to n first but y = true) hb0 ?_
    intro y hy c hc ho
    have hr := foldl_relax_rest to but _ _ hfx y (by simpa using hlt y hy)
    have := congrFun hr c
    rw [← this]
    have ho' : (c : Int) ≠ but := ho
    simp [relax, hy, hc, ho']
end Go.Proofs.YtjbnabjjbofhjaaDoor.Fes
