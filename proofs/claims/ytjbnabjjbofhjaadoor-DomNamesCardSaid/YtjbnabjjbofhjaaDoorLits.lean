/- Rows that are written out. -/
import Derived.Test.YtjbnabjjbofhjaaDoorOwn
set_option linter.unusedVariables false
set_option linter.unusedSimpArgs false
namespace Go.Proofs.YtjbnabjjbofhjaaDoor.Fes
open Go.RowKit Go.Proofs.YtjbnabjjbofhjaaDoorW.PrintWords

/-- A block's cells are those of some elements, one behind the other. -/
inductive Chunks {α : Type} (d : Kd α) (W : World) : List α → List Value → Prop
  | nil : Chunks d W [] []
  | cons {x : α} {xs : List α} {c cs : List Value} : d.K W x c → Chunks d W xs cs → Chunks d W (x :: xs) (c ++ cs)
theorem Chunks.at_ {α : Type} {d : Kd α} {W : World} {xs : List α} {cs : List Value} (h : Chunks d W xs cs) : ∀ j x, xs[j]? = some x → ∃ c, c.length = d.sz ∧ d.K W x c ∧ ∀ i u, c[i]? = some u → cs[j * d.sz + i]? = some u := by
  induction h with
  | nil => intro j x hx; simp at hx
  | @cons y ys c cs hK _ ih =>
    intro j x hx
    have hl := d.K_len hK
    cases j with
    | zero =>
      obtain rfl : y = x := by simpa using hx
      refine ⟨c, hl, hK, fun i u hu => ?_⟩
      rw [Nat.zero_mul, Nat.zero_add, List.getElem?_append_left (List.getElem?_eq_some_iff.1 hu).1]
      exact hu
    | succ j =>
      obtain ⟨c', h1, h2, h3⟩ := ih j x (by simpa using hx)
      refine ⟨c', h1, h2, fun i u hu => ?_⟩
      rw [List.getElem?_append_right (by rw [hl, Nat.succ_mul]; omega), hl, show (j + 1) * d.sz + i - d.sz = j * d.sz + i by rw [Nat.succ_mul]; omega]
      exact h3 i u hu
theorem C_chunks {α : Type} {d : Kd α} {W : World} {g : Nat} {cells : Array Value} {t : Nat} {xs : List α} (hb : W.heap[g]? = some (.cells cells t (0, 0))) (h : Chunks d W xs cells.toList) (hl : xs.length ≤ 9223372036854775807) : Kd.C d W (some ⟨g, 0, none⟩) xs.length xs := by
  refine ⟨rfl, hl, fun _ => ⟨_, rfl, fun j p hj => ?_⟩⟩
  obtain ⟨c, h1, h2, h3⟩ := h.at_ j p hj
  refine ⟨c, h1, h2, fun i u hu => ?_⟩
  rw [add_plain, blk_cell hb]
  have := h3 i u hu
  simpa using this
theorem heap_at (W : World) (o : Obj) (k : Nat) : (W.alloc o).heap[k]? = if k = W.heap.size then some o else W.heap[k]? := by
  show (W.heap.push o)[k]? = _
  rw [Array.getElem?_push]
theorem heap_up {W : World} {o : Obj} {k : Nat} (h : k < W.heap.size) : (W.alloc o).heap[k]? = W.heap[k]? := Below.heap_alloc W o k h
theorem heap_is {W : World} {o : Obj} {k : Nat} (h : W.heap.size = k) : (W.alloc o).heap[k]? = some o := by subst h; exact heap_new W o
theorem heap5 (w : World) (o0 o1 o2 o3 o4 : Obj) :
    (((((w.alloc o0).alloc o1).alloc o2).alloc o3).alloc o4).heap[w.heap.size]? = some o0 ∧ (((((w.alloc o0).alloc o1).alloc o2).alloc o3).alloc o4).heap[w.heap.size + 1]? = some o1 ∧ (((((w.alloc o0).alloc o1).alloc o2).alloc o3).alloc o4).heap[w.heap.size + 1 + 1]? = some o2 ∧ (((((w.alloc o0).alloc o1).alloc o2).alloc o3).alloc o4).heap[w.heap.size + 1 + 1 + 1]? = some o3 ∧ (((((w.alloc o0).alloc o1).alloc o2).alloc o3).alloc o4).heap[w.heap.size + 1 + 1 + 1 + 1]? = some o4 := by
  refine ⟨?_, ?_, ?_, ?_, ?_⟩
  · refine (heap_up (by simp only [World.size_alloc]; omega)).trans ?_
    refine (heap_up (by simp only [World.size_alloc]; omega)).trans ?_
    refine (heap_up (by simp only [World.size_alloc]; omega)).trans ?_
    refine (heap_up (by simp only [World.size_alloc]; omega)).trans ?_
    exact heap_is (by simp only [World.size_alloc])
  · refine (heap_up (by simp only [World.size_alloc]; omega)).trans ?_
    refine (heap_up (by simp only [World.size_alloc]; omega)).trans ?_
    refine (heap_up (by simp only [World.size_alloc]; omega)).trans ?_
    exact heap_is (by simp only [World.size_alloc])
  · refine (heap_up (by simp only [World.size_alloc]; omega)).trans ?_
    refine (heap_up (by simp only [World.size_alloc]; omega)).trans ?_
    exact heap_is (by simp only [World.size_alloc])
  · refine (heap_up (by simp only [World.size_alloc]; omega)).trans ?_
    exact heap_is (by simp only [World.size_alloc])
  · exact heap_is (by simp only [World.size_alloc])
theorem C_nil {α : Type} (d : Kd α) (W : World) : Kd.C d W none 0 [] := ⟨rfl, by simp, fun h => absurd h (by simp)⟩
end Go.Proofs.YtjbnabjjbofhjaaDoor.Fes
