/- The order of blocks. Plain Lean. -/
import Derived.Test.YtjbnabjjbofhjaaDoorPd
set_option linter.unusedVariables false
namespace Go.Proofs.YtjbnabjjbofhjaaDoor.Fes

/-- The blocks in the order. -/
def orderL (to : Nat → List Nat) (n : Nat) : List Nat := (gone to n [0]).reverse
/-- each one's place in it -/
def odB (to : Nat → List Nat) (n : Nat) (b : Nat) : Int := if b ∈ orderL to n then ((orderL to n).idxOf b : Int) else -1
section
variable {to : Nat → List Nat} {n : Nat}
theorem mem_orderL (hi : Inside to n) (hn : 0 < n) (b : Nat) : b ∈ orderL to n ↔ Rc to b := by
  unfold orderL
  rw [List.mem_reverse, mem_gone to n hi [0] (by simpa using hn)]
  simp [Rc]
theorem orderL_nodup (hi : Inside to n) (hn : 0 < n) : (orderL to n).Nodup := by
  unfold orderL
  unfold List.Nodup
  rw [List.pairwise_reverse]
  exact (gone_spec to n hi [0] (by simpa using hn)).nodup.imp (fun h => Ne.symm h)
theorem orderL_zero (to : Nat → List Nat) (n : Nat) : ∃ l, orderL to n = 0 :: l := by
  unfold orderL gone dfsL
  simp only [List.foldl_cons, List.foldl_nil]
  rw [show dfs to (n + 1) ([], []) 0 = (((to 0).foldl (dfs to n) ([0], [])).1, ((to 0).foldl (dfs to n) ([0], [])).2 ++ [0]) by simp [dfs]]
  simp
theorem orderL_small (hi : Inside to n) (hn : 0 < n) : ∀ b ∈ orderL to n, b < n := by
  intro b hb
  exact (gone_spec to n hi [0] (by simpa using hn)).small b (by unfold orderL at hb; simpa using hb)
theorem odB_at (hi : Inside to n) (hn : 0 < n) (k : Nat) (hk : k < (orderL to n).length) : odB to n (orderL to n)[k] = k := by
  unfold odB
  rw [if_pos (List.getElem_mem hk)]
  rw [(orderL_nodup hi hn).idxOf_getElem k hk]
theorem odB_nums (hi : Inside to n) (hn : 0 < n) : Nums to (odB to n) := by
  have hget : ∀ b, Rc to b → ∃ (k : Nat) (hk : k < (orderL to n).length), (orderL to n)[k] = b ∧ odB to n b = k := by
    intro b hb
    obtain ⟨k, hk, rfl⟩ := List.getElem_of_mem ((mem_orderL hi hn b).2 hb)
    exact ⟨k, hk, rfl, odB_at hi hn k hk⟩
  constructor
  · obtain ⟨l, hl⟩ := orderL_zero to n
    have h0 : 0 < (orderL to n).length := by rw [hl]; simp
    have hz : (orderL to n)[0] = 0 := by simp [hl]
    have := odB_at hi hn 0 h0
    rw [hz] at this
    simpa using this
  · intro b hb
    obtain ⟨k, hk, _, ho⟩ := hget b hb
    omega
  · intro a b ha hb he
    obtain ⟨k, hk, h1, ho⟩ := hget a ha
    obtain ⟨j, hj, h2, ho2⟩ := hget b hb
    obtain rfl : k = j := by omega
    rw [← h1, ← h2]
  · intro b hb hb0
    have hg := gone_spec to n hi [0] (by simpa using hn)
    have hm : b ∈ gone to n [0] := (mem_gone to n hi [0] (by simpa using hn) b).2 ⟨0, by simp, hb⟩
    obtain ⟨n1, n2, hs⟩ := List.append_of_mem hm
    rcases hg.par n1 b n2 hs with h | ⟨a, ha, hab⟩
    · simp at h; exact absurd h hb0
    · have har : Rc to a := (mem_orderL hi hn a).1 (by unfold orderL; rw [List.mem_reverse, hs]; simp [ha])
      refine ⟨a, har, hab, ?_⟩
      have ho : orderL to n = n2.reverse ++ b :: n1.reverse := by unfold orderL; rw [hs]; simp
      obtain ⟨i, hi', hi2⟩ := List.getElem_of_mem (List.mem_reverse.2 ha)
      have hlt : i < (orderL to n).length := by rw [ho]; simp at hi' ⊢; omega
      have e1 : (orderL to n)[i] = a := by
        have : (orderL to n)[i] = (n2.reverse ++ b :: n1.reverse)[i]'(by rw [← ho]; exact hlt) := by simp [ho]
        rw [this, List.getElem_append_left hi', hi2]
      have hlb : n2.reverse.length < (orderL to n).length := by rw [ho]; simp
      have e2 : (orderL to n)[n2.reverse.length] = b := by
        have : (orderL to n)[n2.reverse.length] = (n2.reverse ++ b :: n1.reverse)[n2.reverse.length]'(by rw [← ho]; exact hlb) := by simp [ho]
        rw [this, List.getElem_append_right (Nat.le_refl _)]
        simp
      have o1 := odB_at hi hn i hlt
      have o2 := odB_at hi hn n2.reverse.length hlb
      rw [e1] at o1
      rw [e2] at o2
      omega
end
end Go.Proofs.YtjbnabjjbofhjaaDoor.Fes
