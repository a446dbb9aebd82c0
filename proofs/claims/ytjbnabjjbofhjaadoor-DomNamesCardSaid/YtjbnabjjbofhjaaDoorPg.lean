/- Graphs of blocks: what is reached; going through blocks in depth; chains that come to rest. Plain Lean, no Go in sight. -/
set_option linter.unusedVariables false
namespace Go.Proofs.YtjbnabjjbofhjaaDoor.Fes

/-- c is come to from a, by nodes that ok admits (both ends among them). -/
inductive Rch (to : Nat → List Nat) (ok : Nat → Prop) : Nat → Nat → Prop
  | here {a : Nat} : ok a → Rch to ok a a
  | on {a b c : Nat} : Rch to ok a b → c ∈ to b → ok c → Rch to ok a c
theorem Rch.trans {to : Nat → List Nat} {ok : Nat → Prop} {a b c : Nat} (h : Rch to ok a b) (k : Rch to ok b c) : Rch to ok a c := by
  induction k with
  | here _ => exact h
  | on _ hc ho ih => exact ih.on hc ho
theorem Rch.first {to : Nat → List Nat} {ok : Nat → Prop} {a b : Nat} (h : Rch to ok a b) : ok a := by
  induction h with
  | here h => exact h
  | on _ _ _ ih => exact ih
theorem Rch.last {to : Nat → List Nat} {ok : Nat → Prop} {a b : Nat} (h : Rch to ok a b) : ok b := by
  cases h with
  | here h => exact h
  | on _ _ h => exact h
theorem Rch.mono {to : Nat → List Nat} {ok ok' : Nat → Prop} (hm : ∀ x, ok x → ok' x) {a b : Nat} (h : Rch to ok a b) : Rch to ok' a b := by
  induction h with
  | here h => exact .here (hm _ h)
  | on _ hc ho ih => exact ih.on hc (hm _ ho)
/-- All. -/
def every (_ : Nat) : Prop := True
/-- Edges stay below n. -/
def Inside (to : Nat → List Nat) (n : Nat) : Prop := ∀ b, b < n → ∀ c ∈ to b, c < n
theorem Rch.lt {to : Nat → List Nat} {ok : Nat → Prop} {n a b : Nat} (hi : Inside to n) (h : Rch to ok a b) (ha : a < n) : b < n := by
  induction h with
  | here _ => exact ha
  | on _ hc _ ih => exact hi _ ih _ hc
/-- By the first edge. -/
theorem Rch.head {to : Nat → List Nat} {ok : Nat → Prop} {a b : Nat} (h : Rch to ok a b) : a = b ∨ ∃ c ∈ to a, Rch to ok c b := by
  induction h with
  | here _ => exact .inl rfl
  | @on b c h hc ho ih =>
    rcases ih with rfl | ⟨d, hd, hr⟩
    · exact .inr ⟨c, hc, .here ho⟩
    · exact .inr ⟨d, hd, hr.on hc ho⟩
theorem Rch.cons {to : Nat → List Nat} {ok : Nat → Prop} {a c b : Nat} (ha : ok a) (hc : c ∈ to a) (h : Rch to ok c b) : Rch to ok a b := Rch.trans (.on (.here ha) hc h.first) h
/-- A set that is closed holds what is come to. -/
theorem Rch.closed {to : Nat → List Nat} {ok : Nat → Prop} {S : Nat → Prop} {a b : Nat} (h : Rch to ok a b) (ha : S a) (hs : ∀ x, S x → ∀ c ∈ to x, ok c → S c) : S b := by
  induction h with
  | here _ => exact ha
  | on _ hc ho ih => exact hs _ ih _ hc ho

theorem countP_le_of {α : Type} (f g : α → Bool) : ∀ (l : List α), (∀ x ∈ l, f x = true → g x = true) → l.countP f ≤ l.countP g
  | [], _ => by simp
  | a :: l, h => by
    have ih := countP_le_of f g l (fun x hx => h x (by simp [hx]))
    have ha := h a (by simp)
    simp only [List.countP_cons]
    cases hf : f a <;> cases hg : g a <;> simp_all <;> omega
theorem countP_lt_of {α : Type} (f g : α → Bool) : ∀ (l : List α), (∀ x ∈ l, f x = true → g x = true) → (∃ x ∈ l, f x = false ∧ g x = true) → l.countP f < l.countP g
  | [], _, h => by obtain ⟨x, hx, _⟩ := h; simp at hx
  | a :: l, h, he => by
    have ih := countP_le_of f g l (fun x hx => h x (by simp [hx]))
    have ha := h a (by simp)
    obtain ⟨x, hx, hf, hg⟩ := he
    simp only [List.countP_cons]
    rcases List.mem_cons.1 hx with rfl | hx
    · simp [hf, hg]; omega
    · have ih2 := countP_lt_of f g l (fun x hx => h x (by simp [hx])) ⟨x, hx, hf, hg⟩
      cases hf : f a <;> cases hg : g a <;> simp_all <;> omega

/-- What only grows, and rests once it has rested, rests after n rounds. -/
theorem chain_fix (n : Nat) (s : Nat → Nat → Bool) (hinc : ∀ k i, i < n → s k i = true → s (k + 1) i = true) (hst : ∀ k, (∀ i, i < n → s (k + 1) i = s k i) → ∀ i, i < n → s (k + 2) i = s (k + 1) i) :
    ∀ i, i < n → s (n + 1) i = s n i := by
  have key : ∀ k, (∀ i, i < n → s (k + 1) i = s k i) ∨ k + 1 ≤ (List.range n).countP (s (k + 1)) := by
    intro k
    induction k with
    | zero =>
      by_cases h : ∀ i, i < n → s 1 i = s 0 i
      · exact .inl h
      · right
        have hx : ∃ i, i < n ∧ s 1 i ≠ s 0 i := Classical.byContradiction fun hc => h fun i hi => Classical.byContradiction fun hne => hc ⟨i, hi, hne⟩
        obtain ⟨i, hi, hne⟩ := hx
        have h0 : s 0 i = false := by
          cases hh : s 0 i
          · rfl
          · exact absurd ((hinc 0 i hi hh).trans hh.symm) hne
        have h1 : s 1 i = true := by cases hh : s 1 i <;> simp_all
        have := List.countP_pos_iff (p := s 1) (l := List.range n) |>.2 ⟨i, by simpa using hi, h1⟩
        show 0 + 1 ≤ List.countP (s 1) (List.range n)
        omega
    | succ k ih =>
      by_cases h : ∀ i, i < n → s (k + 2) i = s (k + 1) i
      · exact .inl h
      · right
        rcases ih with ih | ih
        · exact absurd (hst k ih) h
        · have hx : ∃ i, i < n ∧ s (k + 2) i ≠ s (k + 1) i := Classical.byContradiction fun hc => h fun i hi => Classical.byContradiction fun hne => hc ⟨i, hi, hne⟩
          obtain ⟨i, hi, hne⟩ := hx
          have h0 : s (k + 1) i = false := by
            cases hh : s (k + 1) i
            · rfl
            · exact absurd ((hinc (k + 1) i hi hh).trans hh.symm) hne
          have h1 : s (k + 2) i = true := by cases hh : s (k + 2) i <;> simp_all
          have := countP_lt_of (s (k + 1)) (s (k + 2)) (List.range n) (fun x hx => hinc (k + 1) x (by simpa using hx)) ⟨i, by simpa using hi, h0, h1⟩
          show k + 1 + 1 ≤ List.countP (s (k + 2)) (List.range n)
          omega
  rcases key n with h | h
  · exact h
  · have := List.countP_le_length (p := s (n + 1)) (l := List.range n)
    simp only [List.length_range] at this
    omega

/-- Going through blocks: which are begun; in which order they were done. -/
def dfs (to : Nat → List Nat) : Nat → List Nat × List Nat → Nat → List Nat × List Nat
  | 0, s, _ => s
  | f + 1, s, b => if b ∈ s.1 then s else
    (((to b).foldl (dfs to f) (s.1 ++ [b], s.2)).1, ((to b).foldl (dfs to f) (s.1 ++ [b], s.2)).2 ++ [b])
def dfsL (to : Nat → List Nat) (f : Nat) (s : List Nat × List Nat) (l : List Nat) : List Nat × List Nat := l.foldl (dfs to f) s
/-- how many are not begun -/
def undone (n : Nat) (B : List Nat) : Nat := (List.range n).countP fun x => !B.contains x
theorem undone_le (n : Nat) (B B' : List Nat) (h : ∀ x ∈ B, x ∈ B') : undone n B' ≤ undone n B := by
  apply countP_le_of
  intro x _ hx
  simp only [Bool.not_eq_true', List.contains_eq_mem, decide_eq_false_iff_not] at *
  exact fun hb => hx (h x hb)
theorem undone_lt (n : Nat) (B : List Nat) (b : Nat) (hb : b < n) (hn : b ∉ B) : undone n (B ++ [b]) < undone n B := by
  apply countP_lt_of
  · intro x _ hx
    simp only [Bool.not_eq_true', List.contains_eq_mem, decide_eq_false_iff_not, List.mem_append, List.mem_singleton, not_or] at *
    exact hx.1
  · exact ⟨b, by simpa using hb, by simp, by simpa using hn⟩

/-- What going through some blocks does. -/
structure Gone (to : Nat → List Nat) (n : Nat) (B D : List Nat) (first : List Nat) (s : List Nat × List Nat) (new : List Nat) : Prop where
  done : s.2 = D ++ new
  mem : ∀ x, x ∈ s.1 ↔ x ∈ B ∨ x ∈ new
  apart : ∀ x ∈ new, x ∉ B
  nodup : new.Nodup
  small : ∀ x ∈ new, x < n
  has : ∀ b ∈ first, b ∈ s.1
  come : ∀ u ∈ new, ∃ b ∈ first, Rch to every b u
  shut : ∀ u ∈ new, ∀ v ∈ to u, v ∈ s.1
  back : ∀ n1 u n2, new = n1 ++ u :: n2 → ∀ v ∈ to u, v ∈ B ∨ v ∈ n1 ∨ Rch to every v u
  par : ∀ n1 u n2, new = n1 ++ u :: n2 → u ∈ first ∨ ∃ a ∈ n2, u ∈ to a

theorem split_app {α : Type} {a b n1 n2 : List α} {u : α} (h : a ++ b = n1 ++ u :: n2) : (∃ m2, a = n1 ++ u :: m2) ∨ (∃ m1, n1 = a ++ m1 ∧ b = m1 ++ u :: n2) := by
  rcases List.append_eq_append_iff.1 h with ⟨m, h1, h2⟩ | ⟨m, h1, h2⟩
  · exact .inr ⟨m, h1, h2⟩
  · cases m with
    | nil => exact .inr ⟨[], by simpa using h1.symm, by simpa using h2.symm⟩
    | cons x m =>
      simp only [List.cons_append, List.cons.injEq] at h2
      obtain ⟨rfl, h2⟩ := h2
      exact .inl ⟨m, h1⟩

theorem dfs_gone (to : Nat → List Nat) (n : Nat) (hi : Inside to n) : ∀ (f : Nat),
    (∀ (B D : List Nat) (b : Nat), undone n B < f → b < n → ∃ new, Gone to n B D [b] (dfs to f (B, D) b) new) := by
  intro f
  induction f with
  | zero => intro B D b h; omega
  | succ f ih =>
    have ihL : ∀ (l : List Nat) (B D : List Nat), undone n B < f → (∀ b ∈ l, b < n) → ∃ new, Gone to n B D l (l.foldl (dfs to f) (B, D)) new := by
      intro l
      induction l with
      | nil => intro B D _ _; exact ⟨[], ⟨by simp, by simp, by simp, by simp, by simp, by simp, by simp, by simp, by simp, by simp⟩⟩
      | cons b l ihl =>
        intro B D hu hb
        obtain ⟨n1, g1⟩ := ih B D b hu (hb b (by simp))
        have hs1 : dfs to f (B, D) b = ((dfs to f (B, D) b).1, D ++ n1) := by rw [← g1.done]
        obtain ⟨n2, g2⟩ := ihl (dfs to f (B, D) b).1 (D ++ n1) (Nat.lt_of_le_of_lt (undone_le n B _ (fun x hx => (g1.mem x).2 (.inl hx))) hu) (fun x hx => hb x (by simp [hx]))
        rw [← hs1] at g2
        refine ⟨n1 ++ n2, ?_⟩
        have hm := g2.mem
        constructor
        · rw [List.foldl_cons, g2.done, List.append_assoc]
        · intro x; rw [List.foldl_cons, hm, g1.mem, List.mem_append, or_assoc]
        · intro x hx hB
          rcases List.mem_append.1 hx with h | h
          · exact g1.apart x h hB
          · exact g2.apart x h ((g1.mem x).2 (.inl hB))
        · rw [List.nodup_append]
          refine ⟨g1.nodup, g2.nodup, ?_⟩
          intro a ha b' hb' e
          subst e
          exact g2.apart a hb' ((g1.mem a).2 (.inr ha))
        · intro x hx
          rcases List.mem_append.1 hx with h | h
          · exact g1.small x h
          · exact g2.small x h
        · intro x hx
          rw [List.foldl_cons]
          rcases List.mem_cons.1 hx with rfl | h
          · exact (hm x).2 (.inl (g1.has x (by simp)))
          · exact g2.has x h
        · intro u hu'
          rcases List.mem_append.1 hu' with h | h
          · obtain ⟨c, hc, hr⟩ := g1.come u h
            obtain rfl : c = b := by simpa using hc
            exact ⟨c, by simp, hr⟩
          · obtain ⟨c, hc, hr⟩ := g2.come u h
            exact ⟨c, by simp [hc], hr⟩
        · intro u hu' v hv
          rw [List.foldl_cons]
          rcases List.mem_append.1 hu' with h | h
          · exact (hm v).2 (.inl (g1.shut u h v hv))
          · exact g2.shut u h v hv
        · intro m1 u m2 he v hv
          rcases split_app he with ⟨m3, h3⟩ | ⟨m3, h3, h4⟩
          · exact g1.back m1 u m3 h3 v hv
          · rcases g2.back m3 u m2 h4 v hv with h | h | h
            · rcases (g1.mem v).1 h with h | h
              · exact .inl h
              · exact .inr (.inl (by rw [h3]; simp [h]))
            · exact .inr (.inl (by rw [h3]; simp [h]))
            · exact .inr (.inr h)
        · intro m1 u m2 he
          rcases split_app he with ⟨m3, h3⟩ | ⟨m3, h3, h4⟩
          · have hm2 : m2 = m3 ++ n2 := by rw [h3] at he; simpa using he.symm
            rcases g1.par m1 u m3 h3 with h | ⟨a, ha, hu2⟩
            · exact .inl (by simp at h; simp [h])
            · exact .inr ⟨a, by rw [hm2]; simp [ha], hu2⟩
          · rcases g2.par m3 u m2 h4 with h | h
            · exact .inl (by simp [h])
            · exact .inr h
    intro B D b hu hb
    by_cases hB : b ∈ B
    · refine ⟨[], ?_⟩
      have he : dfs to (f + 1) (B, D) b = (B, D) := by simp [dfs, hB]
      rw [he]
      exact ⟨by simp, by simp, by simp, by simp, by simp, by simpa using hB, by simp, by simp, by simp, by simp⟩
    · have hlt := undone_lt n B b hb hB
      obtain ⟨new, g⟩ := ihL (to b) (B ++ [b]) D (by omega) (hi b hb)
      have he : dfs to (f + 1) (B, D) b = (((to b).foldl (dfs to f) (B ++ [b], D)).1, ((to b).foldl (dfs to f) (B ++ [b], D)).2 ++ [b]) := by simp [dfs, hB]
      refine ⟨new ++ [b], ?_⟩
      rw [he]
      have hm := g.mem
      constructor
      · show _ ++ [b] = _; rw [g.done, List.append_assoc]
      · intro x
        show x ∈ ((to b).foldl (dfs to f) (B ++ [b], D)).1 ↔ _
        rw [hm]
        simp only [List.mem_append, List.mem_singleton]
        constructor
        · rintro ((h | h) | h)
          · exact .inl h
          · exact .inr (.inr h)
          · exact .inr (.inl h)
        · rintro (h | h | h)
          · exact .inl (.inl h)
          · exact .inr h
          · exact .inl (.inr h)
      · intro x hx hxB
        rcases List.mem_append.1 hx with h | h
        · exact g.apart x h (by simp [hxB])
        · obtain rfl : x = b := by simpa using h
          exact hB hxB
      · rw [List.nodup_append]
        refine ⟨g.nodup, by simp, ?_⟩
        intro a ha b' hb' e
        subst e
        obtain rfl : a = b := by simpa using hb'
        exact g.apart a ha (by simp)
      · intro x hx
        rcases List.mem_append.1 hx with h | h
        · exact g.small x h
        · obtain rfl : x = b := by simpa using h
          exact hb
      · intro x hx
        obtain rfl : x = b := by simpa using hx
        show x ∈ ((to x).foldl (dfs to f) (B ++ [x], D)).1
        exact (hm x).2 (.inl (by simp))
      · intro u hu'
        rcases List.mem_append.1 hu' with h | h
        · obtain ⟨c, hc, hr⟩ := g.come u h
          exact ⟨b, by simp, Rch.cons trivial hc hr⟩
        · obtain rfl : u = b := by simpa using h
          exact ⟨u, by simp, .here trivial⟩
      · intro u hu' v hv
        show v ∈ ((to b).foldl (dfs to f) (B ++ [b], D)).1
        rcases List.mem_append.1 hu' with h | h
        · exact g.shut u h v hv
        · obtain rfl : u = b := by simpa using h
          exact g.has v hv
      · intro m1 u m2 hs v hv
        rcases split_app hs with ⟨m3, h3⟩ | ⟨m3, h3, h4⟩
        · rcases g.back m1 u m3 h3 v hv with h | h | h
          · rcases List.mem_append.1 h with h | h
            · exact .inl h
            · obtain rfl : v = b := by simpa using h
              have hun : u ∈ new := by rw [h3]; simp
              obtain ⟨c, hc, hr⟩ := g.come u hun
              exact .inr (.inr (Rch.cons trivial hc hr))
          · exact .inr (.inl h)
          · exact .inr (.inr h)
        · have hm3 : m3 = [] := by
            cases m3 with
            | nil => rfl
            | cons y m3 => simp at h4
          subst hm3
          have hub : u = b := by simp at h4; exact h4.1.symm
          subst hub
          rcases (hm v).1 (g.has v hv) with h | h
          · rcases List.mem_append.1 h with h | h
            · exact .inl h
            · obtain rfl : v = u := by simpa using h
              exact .inr (.inr (.here trivial))
          · exact .inr (.inl (by rw [h3]; simp [h]))
      · intro m1 u m2 hs
        rcases split_app hs with ⟨m3, h3⟩ | ⟨m3, h3, h4⟩
        · have hm2 : m2 = m3 ++ [b] := by rw [h3] at hs; simpa using hs.symm
          rcases g.par m1 u m3 h3 with h | ⟨a, ha, hu2⟩
          · exact .inr ⟨b, by rw [hm2]; simp, h⟩
          · exact .inr ⟨a, by rw [hm2]; simp [ha], hu2⟩
        · have hm3 : m3 = [] := by
            cases m3 with
            | nil => rfl
            | cons y m3 => simp at h4
          subst hm3
          have hub : u = b := by simp at h4; exact h4.1.symm
          exact .inl (by simp [hub])

theorem dfsL_gone (to : Nat → List Nat) (n : Nat) (hi : Inside to n) (f : Nat) : ∀ (l : List Nat) (B D : List Nat), undone n B < f → (∀ b ∈ l, b < n) → ∃ new, Gone to n B D l (dfsL to f (B, D) l) new := by
  intro l B D hu hb
  -- one node more that goes to them
  induction l generalizing B D with
  | nil => exact ⟨[], ⟨by simp [dfsL], by simp [dfsL], by simp, by simp, by simp, by simp, by simp, by simp, by simp, by simp⟩⟩
  | cons b l ihl =>
    obtain ⟨n1, g1⟩ := dfs_gone to n hi f B D b hu (hb b (by simp))
    have hs1 : dfs to f (B, D) b = ((dfs to f (B, D) b).1, D ++ n1) := by rw [← g1.done]
    obtain ⟨n2, g2⟩ := ihl (dfs to f (B, D) b).1 (D ++ n1) (Nat.lt_of_le_of_lt (undone_le n B _ (fun x hx => (g1.mem x).2 (.inl hx))) hu) (fun x hx => hb x (by simp [hx]))
    rw [← hs1] at g2
    refine ⟨n1 ++ n2, ?_⟩
    have hm := g2.mem
    have hf : dfsL to f (B, D) (b :: l) = dfsL to f (dfs to f (B, D) b) l := by simp [dfsL]
    rw [hf]
    constructor
    · rw [g2.done, List.append_assoc]
    · intro x; rw [hm, g1.mem, List.mem_append, or_assoc]
    · intro x hx hB
      rcases List.mem_append.1 hx with h | h
      · exact g1.apart x h hB
      · exact g2.apart x h ((g1.mem x).2 (.inl hB))
    · rw [List.nodup_append]
      refine ⟨g1.nodup, g2.nodup, ?_⟩
      intro a ha b' hb' e
      subst e
      exact g2.apart a hb' ((g1.mem a).2 (.inr ha))
    · intro x hx
      rcases List.mem_append.1 hx with h | h
      · exact g1.small x h
      · exact g2.small x h
    · intro x hx
      rcases List.mem_cons.1 hx with rfl | h
      · exact (hm x).2 (.inl (g1.has x (by simp)))
      · exact g2.has x h
    · intro u hu'
      rcases List.mem_append.1 hu' with h | h
      · obtain ⟨c, hc, hr⟩ := g1.come u h
        obtain rfl : c = b := by simpa using hc
        exact ⟨c, by simp, hr⟩
      · obtain ⟨c, hc, hr⟩ := g2.come u h
        exact ⟨c, by simp [hc], hr⟩
    · intro u hu' v hv
      rcases List.mem_append.1 hu' with h | h
      · exact (hm v).2 (.inl (g1.shut u h v hv))
      · exact g2.shut u h v hv
    · intro m1 u m2 he v hv
      rcases split_app he with ⟨m3, h3⟩ | ⟨m3, h3, h4⟩
      · exact g1.back m1 u m3 h3 v hv
      · rcases g2.back m3 u m2 h4 v hv with h | h | h
        · rcases (g1.mem v).1 h with h | h
          · exact .inl h
          · exact .inr (.inl (by rw [h3]; simp [h]))
        · exact .inr (.inl (by rw [h3]; simp [h]))
        · exact .inr (.inr h)
    · intro m1 u m2 he
      rcases split_app he with ⟨m3, h3⟩ | ⟨m3, h3, h4⟩
      · have hm2 : m2 = m3 ++ n2 := by rw [h3] at he; simpa using he.symm
        rcases g1.par m1 u m3 h3 with h | ⟨a, ha, hu2⟩
        · exact .inl (by simp at h; simp [h])
        · exact .inr ⟨a, by rw [hm2]; simp [ha], hu2⟩
      · rcases g2.par m3 u m2 h4 with h | h
        · exact .inl (by simp [h])
        · exact .inr h

/-- What is done, from some on. -/
def gone (to : Nat → List Nat) (n : Nat) (l : List Nat) : List Nat := (dfsL to (n + 1) ([], []) l).2
theorem gone_spec (to : Nat → List Nat) (n : Nat) (hi : Inside to n) (l : List Nat) (hl : ∀ b ∈ l, b < n) : Gone to n [] [] l (dfsL to (n + 1) ([], []) l) (gone to n l) := by
  obtain ⟨new, g⟩ := dfsL_gone to n hi (n + 1) l [] [] (by have := List.countP_le_length (p := fun x => !([] : List Nat).contains x) (l := List.range n); simp only [List.length_range] at this; unfold undone; omega) hl
  have : gone to n l = new := by unfold gone; rw [g.done, List.nil_append]
  rw [this]; exact g
/-- Just what is come to is done. -/
theorem mem_gone (to : Nat → List Nat) (n : Nat) (hi : Inside to n) (l : List Nat) (hl : ∀ b ∈ l, b < n) (x : Nat) : x ∈ gone to n l ↔ ∃ b ∈ l, Rch to every b x := by
  have g := gone_spec to n hi l hl
  have hmem : ∀ x, x ∈ (dfsL to (n + 1) ([], []) l).1 ↔ x ∈ gone to n l := fun x => by rw [g.mem]; simp
  refine ⟨g.come x, ?_⟩
  rintro ⟨b, hb, hr⟩
  exact hr.closed (S := fun x => x ∈ gone to n l) ((hmem b).1 (g.has b hb)) (fun u hu v hv _ => (hmem v).1 (g.shut u hu v hv))
end Go.Proofs.YtjbnabjjbofhjaaDoor.Fes
