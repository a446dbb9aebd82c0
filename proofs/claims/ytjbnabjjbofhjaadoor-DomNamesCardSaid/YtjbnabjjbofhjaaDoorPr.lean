/- What is reached, sorted; the plain side of FlowBoth and FlowOrder. -/
import Derived.Test.YtjbnabjjbofhjaaDoorFl6
set_option linter.unusedVariables false
set_option linter.unusedSimpArgs false
namespace Go.Proofs.YtjbnabjjbofhjaaDoor.Fes

def srt (l : List Int) : List Int := l.mergeSort fun x y => decide (x ≤ y)
theorem srt_mem (l : List Int) (x : Int) : x ∈ srt l ↔ x ∈ l := (List.mergeSort_perm l _).mem_iff
theorem srt_len (l : List Int) : (srt l).length = l.length := (List.mergeSort_perm l _).length_eq
theorem srt_sorted (l : List Int) : (srt l).Pairwise (fun x y => x ≤ y) := by
  have h := List.pairwise_mergeSort (le := fun x y : Int => decide (x ≤ y)) (fun a b c h1 h2 => by simp only [decide_eq_true_eq] at *; omega) (fun a b => by simp only [Bool.or_eq_true, decide_eq_true_eq]; omega) l
  exact h.imp (fun h => by simpa using h)
theorem srt_strict {l : List Int} (h : l.Nodup) : (srt l).Pairwise (fun x y => x < y) := by
  have hn : (srt l).Nodup := (List.mergeSort_perm l _).nodup_iff.2 h
  exact (srt_sorted l).imp₂ (fun a b h1 h2 => by omega) hn
theorem srt_small {l : List Int} (h : l.length ≤ 20) : (srt l).length ≤ 20 := by rw [srt_len]; exact h
/-- the blocks that are reached, sorted -/
def reP (p : Prg) (f : Int) : List Int := if flE p f 0 = 0 then srt (castL (gone (toN (fnP p f).blocks) (fnP p f).blocks.length [0])) else []

theorem castL_mem (l : List Nat) (x : Nat) : (x : Int) ∈ castL l ↔ x ∈ l := by
  unfold castL
  rw [List.mem_map]
  constructor
  · rintro ⟨y, hy, e⟩
    obtain rfl : y = x := by omega
    exact hy
  · intro h; exact ⟨x, h, rfl⟩
theorem castL_nodup {l : List Nat} (h : l.Nodup) : (castL l).Nodup := by
  unfold castL List.Nodup
  rw [List.pairwise_map]
  exact h.imp fun h e => h (by omega)
theorem flE_any {p : Prg} {f a b : Int} (h : flE p f a = 0) (h0 : 0 ≤ b) (h1 : b < (fnP p f).blocks.length) : flE p f b = 0 := by
  unfold flE at *
  split at h
  · rename_i hk
    rw [if_pos hk, if_pos]
    unfold belB
    simp [h0, h1]
  · rename_i hk
    exact absurd h hk
section
variable {p : Prg} {f : Int}
theorem re_mem {a : Int} (h : flE p f a = 0) (x : Nat) : (x : Int) ∈ reP p f ↔ Rc (toN (fnP p f).blocks) x := by
  obtain ⟨_, _, b0, b1⟩ := flE_zero h
  have h0 : flE p f 0 = 0 := flE_any h (by omega) (by omega)
  unfold reP
  rw [if_pos h0, srt_mem, castL_mem, mem_gone _ _ (flE_edge h).inside [0] (by intro b hb; obtain rfl : b = 0 := by simpa using hb
                                                                              omega)]
  simp [Rc]
theorem nx_at {a : Nat} (h : flE p f a = 0) : nxP p f a = castL (toN (fnP p f).blocks a) := by
  obtain ⟨_, _, b0, b1⟩ := flE_zero h
  have ha : a < (fnP p f).blocks.length := by omega
  unfold nxP
  rw [if_pos h, Int.toNat_natCast, List.getD_eq_getElem?_getD, List.getElem?_eq_getElem ha, Option.getD_some, (flE_edge h).cast ha]
  rfl
theorem pr_at {a b : Nat} (h : flE p f b = 0) (ha : a < (fnP p f).blocks.length) : (prP p f b).contains (a : Int) = (toN (fnP p f).blocks a).contains b := by
  unfold prP prL
  rw [if_pos h, show ((List.range (fnP p f).blocks.length).filter (isPred (fnP p f).blocks b)).map (fun k : Nat => (k : Int)) = castL ((List.range (fnP p f).blocks.length).filter (isPred (fnP p f).blocks b)) from rfl, contains_cast]
  rw [Bool.eq_iff_iff]
  simp only [List.contains_eq_mem, decide_eq_true_eq, List.mem_filter, List.mem_range]
  unfold isPred
  rw [List.getD_eq_getElem?_getD, List.getElem?_eq_getElem ha, Option.getD_some, (flE_edge h).cast ha]
  rw [show ((toN (fnP p f).blocks a).map fun c : Nat => (c : Int)) = castL (toN (fnP p f).blocks a) from rfl, contains_cast]
  simp [ha]
theorem pr_sub {b : Nat} (h : flE p f b = 0) : ∀ x ∈ prP p f b, ∃ a : Nat, x = a ∧ a < (fnP p f).blocks.length := by
  intro x hx
  unfold prP prL at hx
  rw [if_pos h] at hx
  obtain ⟨k, hk, rfl⟩ := List.mem_map.1 hx
  exact ⟨k, rfl, by simpa using (List.mem_filter.1 hk).1⟩
theorem contains_iff (l : List Int) (x : Int) : l.contains x = true ↔ x ∈ l := by simp
structure Both (p : Prg) (f a b : Int) : Prop where
  alike : (nxP p f a).contains b = (prP p f b).contains a
  zero : (reP p f).contains 0 = true
  goes : ((reP p f).contains a && (nxP p f a).contains b && !(reP p f).contains b) = false
  from_ : (reP p f).contains b = ((b == 0) || (prP p f b).any fun x => (reP p f).contains x)
theorem both_pure {a b : Int} (ha : flE p f a = 0) (hb : flE p f b = 0) : Both p f a b := by
  obtain ⟨_, _, a0, a1⟩ := flE_zero ha
  obtain ⟨_, _, b0, b1⟩ := flE_zero hb
  obtain ⟨x, rfl⟩ := Int.eq_ofNat_of_zero_le a0
  obtain ⟨y, rfl⟩ := Int.eq_ofNat_of_zero_le b0
  have hx : x < (fnP p f).blocks.length := by omega
  have hy : y < (fnP p f).blocks.length := by omega
  have hz : ∀ z : Nat, (reP p f).contains (z : Int) = true ↔ Rc (toN (fnP p f).blocks) z := fun z => by rw [contains_iff, re_mem ha]
  constructor
  · rw [nx_at ha, contains_cast, pr_at hb hx]
  · exact (hz 0).2 (.here trivial)
  · rw [nx_at ha, contains_cast]
    cases h1 : (reP p f).contains (x : Int) with
    | false => simp
    | true =>
      cases h2 : (toN (fnP p f).blocks x).contains y with
      | false => simp
      | true =>
        have : Rc (toN (fnP p f).blocks) y := .on ((hz x).1 h1) (by simpa using h2) trivial
        simp only [(hz y).2 this, Bool.not_true, Bool.and_false]
  · rw [Bool.eq_iff_iff, hz y]
    simp only [Bool.or_eq_true, List.any_eq_true, beq_iff_eq]
    constructor
    · intro h
      cases h with
      | here _ => exact .inl rfl
      | on h1 h2 h3 =>
        rename_i c
        have hcl : c < (fnP p f).blocks.length := h1.lt (flE_edge ha).inside (by omega)
        refine .inr ⟨(c : Int), ?_, (hz c).2 h1⟩
        rw [← contains_iff, pr_at hb hcl]
        simpa using h2
    · rintro (h | ⟨c, hc, hr⟩)
      · obtain rfl : y = 0 := by omega
        exact .here trivial
      · obtain ⟨k, rfl, hk⟩ := pr_sub hb c hc
        rw [← contains_iff, pr_at hb hk] at hc
        exact .on ((hz k).1 hr) (by simpa using hc) trivial

structure Ordl (p : Prg) (f : Int) : Prop where
  len : (orP p f).length = (reP p f).length
  pos : 0 < (orP p f).length
  first : ∀ h : 0 < (orP p f).length, (orP p f)[0] = 0
  has : ∀ (n : Nat) (h : n < (reP p f).length), (orP p f).contains (reP p f)[n] = true
  rising : ∀ (n : Nat) (h : n + 1 < (reP p f).length), (reP p f)[n]'(by omega) < (reP p f)[n + 1]
  may : ∀ (i : Nat) (h : i < (orP p f).length), flE p f (orP p f)[i] = 0
  ahead : ∀ (i k : Nat) (hi : i < (orP p f).length) (hk : k < (orP p f).length), (nxP p f (orP p f)[i]).contains (orP p f)[k] = true → (gone (toN (fnP p f).blocks) (fnP p f).blocks.length [((orP p f)[k]).toNat]).contains ((orP p f)[i]).toNat = false → i < k
theorem ordl_pure (h : flE p f 0 = 0) : Ordl p f := by
  obtain ⟨_, _, b0, b1⟩ := flE_zero h
  have hn : 0 < (fnP p f).blocks.length := by omega
  have hin := (flE_edge h).inside
  have hg := gone_spec (toN (fnP p f).blocks) _ hin [0] (by simpa using hn)
  have ho : orP p f = castL (orderL (toN (fnP p f).blocks) (fnP p f).blocks.length) := by unfold orP; rw [if_pos h]
  have hr : reP p f = srt (castL (gone (toN (fnP p f).blocks) (fnP p f).blocks.length [0])) := by unfold reP; rw [if_pos h]
  have hol : (orP p f).length = (orderL (toN (fnP p f).blocks) (fnP p f).blocks.length).length := by rw [ho]; simp [castL]
  have hat : ∀ (i : Nat) (h1 : i < (orP p f).length), (orP p f)[i] = ((orderL (toN (fnP p f).blocks) (fnP p f).blocks.length)[i]'(by omega) : Int) := by
    intro i h1
    simp only [ho]
    simp [castL]
  have hsm : ∀ (i : Nat) (h1 : i < (orP p f).length), flE p f (orP p f)[i] = 0 := by
    intro i h1
    rw [hat i h1]
    have := orderL_small hin hn _ (List.getElem_mem (show i < (orderL (toN (fnP p f).blocks) (fnP p f).blocks.length).length by omega))
    exact flE_any h (by omega) (by omega)
  constructor
  · rw [ho, hr, srt_len]
    simp [castL, orderL]
  · obtain ⟨l, hl⟩ := orderL_zero (toN (fnP p f).blocks) (fnP p f).blocks.length
    rw [hol, hl]
    simp
  · intro h0
    rw [hat 0 h0]
    obtain ⟨l, hl⟩ := orderL_zero (toN (fnP p f).blocks) (fnP p f).blocks.length
    simp [hl]
  · intro n hnl
    rw [contains_iff, ho]
    have hm : (reP p f)[n] ∈ reP p f := List.getElem_mem hnl
    generalize (reP p f)[n] = x at hm
    rw [hr, srt_mem] at hm
    unfold castL at *
    obtain ⟨z, hz, rfl⟩ := List.mem_map.1 hm
    exact List.mem_map.2 ⟨z, by unfold orderL; simpa using hz, rfl⟩
  · intro n hnl
    have hp := srt_strict (castL_nodup hg.nodup)
    rw [← hr] at hp
    exact List.pairwise_iff_getElem.1 hp n (n + 1) (by omega) hnl (by omega)
  · exact hsm
  · intro i k hi hk hc hno
    have e1 := hat i hi
    have e2 := hat k hk
    have hi' : i < (orderL (toN (fnP p f).blocks) (fnP p f).blocks.length).length := by omega
    have hk' : k < (orderL (toN (fnP p f).blocks) (fnP p f).blocks.length).length := by omega
    have h1 := hsm i hi
    rw [e1] at h1 hc hno
    rw [e2] at hc hno
    rw [nx_at h1, contains_cast] at hc
    simp only [Int.toNat_natCast] at hno
    generalize hu : (orderL (toN (fnP p f).blocks) (fnP p f).blocks.length)[i] = u at *
    generalize hv : (orderL (toN (fnP p f).blocks) (fnP p f).blocks.length)[k] = v at *
    have hvl : v < (fnP p f).blocks.length := by rw [← hv]; exact orderL_small hin hn _ (List.getElem_mem hk')
    have hnr : ¬ Rch (toN (fnP p f).blocks) every v u := by
      intro hr
      have : u ∈ gone (toN (fnP p f).blocks) (fnP p f).blocks.length [v] := (mem_gone _ _ hin [v] (by simpa using hvl) u).2 ⟨v, by simp, hr⟩
      simp [this] at hno
    by_cases hik : i < k
    · exact hik
    exfalso
    -- split the done list at u: what stands behind u in the order lies ahead of it there
    have hrev : (gone (toN (fnP p f).blocks) (fnP p f).blocks.length [0]) = (orderL (toN (fnP p f).blocks) (fnP p f).blocks.length).reverse := by unfold orderL; simp
    have hspl : orderL (toN (fnP p f).blocks) (fnP p f).blocks.length = (orderL (toN (fnP p f).blocks) (fnP p f).blocks.length).take i ++ u :: (orderL (toN (fnP p f).blocks) (fnP p f).blocks.length).drop (i + 1) := by
      rw [← hu, List.getElem_cons_drop, List.take_append_drop]
    have hb := hg.back ((orderL (toN (fnP p f).blocks) (fnP p f).blocks.length).drop (i + 1)).reverse u ((orderL (toN (fnP p f).blocks) (fnP p f).blocks.length).take i).reverse (by
      rw [hrev]
      conv => lhs; rw [hspl]
      simp) v (by simpa using hc)
    rcases hb with hb | hb | hb
    · simp at hb
    · rw [List.mem_reverse, List.mem_drop_iff_getElem] at hb
      obtain ⟨j, hj, e⟩ := hb
      have hnd := orderL_nodup hin hn
      have e3 : i + 1 + j = k := (List.getElem_inj (h₀ := by omega) (h₁ := hk') hnd).1 (by rw [hv]; exact e)
      omega
    · exact hnr hb
end
end Go.Proofs.YtjbnabjjbofhjaaDoor.Fes
