/- Small rows of whole numbers by value that come in: their cells. -/
import Derived.Test.YtjbnabjjbofhjaaDoorOpen
import Derived.WideShapes
set_option linter.unusedVariables false
set_option linter.unusedSimpArgs false
namespace Go.Proofs.YtjbnabjjbofhjaaDoor.Fes
open Go.RowKit Go.Proofs.YtjbnabjjbofhjaaDoorW.PrintWords

set_option maxRecDepth 100000 in
theorem cell_int {P : Program} {W : World} {base : Nat} {t : TypeId} {v : Value} (ht : P.underlying t = some (.int .i64)) (h : Cell.okWide P W .any base t v) : ∃ n, v = .int .i64 n := by
  simp only [Cell.okWide, ht] at h
  cases v <;> simp_all [Cell.ok]
set_option maxRecDepth 100000 in
theorem row_ints {W : World} {base : Nat} {t : TypeId} {cs : Array Value} {k : Nat} (hk : 0 < k) (hc : Tryd.prog.cellTypes Tryd.prog.depth t = some (List.replicate k 3)) (h : Row.okWide Tryd.prog W .any base t cs) : ∀ (i : Nat) (v : Value), cs[i]? = some v → ∃ n : Int, v = .int .i64 n := by
  obtain ⟨ts, h1, _, h2⟩ := h
  have h3 := Option.some.inj (hc.symm.trans h1)
  intro i v hv
  obtain ⟨u, hu, ho⟩ := h2 i v hv
  rw [← h3] at hu
  have : u = 3 := by
    have := List.mem_of_getElem? hu
    exact (List.mem_replicate.1 this).2
  subst this
  exact cell_int Tryd.underlying3 ho
set_option maxRecDepth 100000 in
theorem ints3 {W : World} {base : Nat} {t : TypeId} {cs : Array Value} (hs : cs.size = 3) (hc : Tryd.prog.cellTypes Tryd.prog.depth t = some (List.replicate 3 3)) (h : Row.okWide Tryd.prog W .any base t cs) : ∃ a b c : Int, cs = #[.int .i64 a, .int .i64 b, .int .i64 c] := by
  have hr := row_ints (by omega) hc h
  obtain ⟨a, ha⟩ := hr 0 cs[0] (Array.getElem?_eq_getElem (by omega))
  obtain ⟨b, hb⟩ := hr 1 cs[1] (Array.getElem?_eq_getElem (by omega))
  obtain ⟨c, hc⟩ := hr 2 cs[2] (Array.getElem?_eq_getElem (by omega))
  refine ⟨a, b, c, ?_⟩
  apply Array.ext
  · rw [hs]; rfl
  · intro i h1 h2
    have h3 : i < 3 := by omega
    match i, h3 with
    | 0, _ => exact ha
    | 1, _ => exact hb
    | 2, _ => exact hc
set_option maxRecDepth 100000 in
theorem ints2 {W : World} {base : Nat} {t : TypeId} {cs : Array Value} (hs : cs.size = 2) (hc : Tryd.prog.cellTypes Tryd.prog.depth t = some (List.replicate 2 3)) (h : Row.okWide Tryd.prog W .any base t cs) : ∃ a b : Int, cs = #[.int .i64 a, .int .i64 b] := by
  have hr := row_ints (by omega) hc h
  obtain ⟨a, ha⟩ := hr 0 cs[0] (Array.getElem?_eq_getElem (by omega))
  obtain ⟨b, hb⟩ := hr 1 cs[1] (Array.getElem?_eq_getElem (by omega))
  refine ⟨a, b, ?_⟩
  apply Array.ext
  · rw [hs]; rfl
  · intro i h1 h2
    have h3 : i < 2 := by omega
    match i, h3 with
    | 0, _ => exact ha
    | 1, _ => exact hb
set_option maxRecDepth 100000 in
theorem cells_arr3 : Tryd.prog.cellsOf 54 = 3 := by kernel_rfl
set_option maxRecDepth 100000 in
theorem types_arr3 : Tryd.prog.cellTypes Tryd.prog.depth 54 = some (List.replicate 3 3) := by kernel_rfl
set_option maxRecDepth 100000 in
theorem open_arr3 {W : World} {base : Nat} {v : Value} (h : Value.okWide Tryd.prog W .any base 54 v) : ∃ a b c : Int, v = .agg #[.int .i64 a, .int .i64 b, .int .i64 c] := by
  unfold Value.okWide at h
  rw [Tryd.underlying54] at h
  obtain ⟨cs, rfl, hs, hr⟩ := h
  obtain ⟨a, b, c, rfl⟩ := ints3 (hs.trans cells_arr3) types_arr3 hr
  exact ⟨a, b, c, rfl⟩
set_option maxRecDepth 100000 in
theorem cells_arr2 : Tryd.prog.cellsOf 71 = 2 := by kernel_rfl
set_option maxRecDepth 100000 in
theorem types_arr2 : Tryd.prog.cellTypes Tryd.prog.depth 71 = some (List.replicate 2 3) := by kernel_rfl
set_option maxRecDepth 100000 in
theorem open_arr2 {W : World} {base : Nat} {v : Value} (h : Value.okWide Tryd.prog W .any base 71 v) : ∃ a b : Int, v = .agg #[.int .i64 a, .int .i64 b] := by
  unfold Value.okWide at h
  rw [Tryd.underlying71] at h
  obtain ⟨cs, rfl, hs, hr⟩ := h
  obtain ⟨a, b, rfl⟩ := ints2 (hs.trans cells_arr2) types_arr2 hr
  exact ⟨a, b, rfl⟩
set_option maxRecDepth 100000 in
theorem cells_ask : Tryd.prog.cellsOf 62 = 3 := by kernel_rfl
set_option maxRecDepth 100000 in
theorem types_ask : Tryd.prog.cellTypes Tryd.prog.depth 62 = some (List.replicate 3 3) := by kernel_rfl
set_option maxRecDepth 100000 in
theorem open_ask {W : World} {base : Nat} {v : Value} (h : Value.okWide Tryd.prog W .any base 62 v) : ∃ a b c : Int, v = .agg #[.int .i64 a, .int .i64 b, .int .i64 c] := by
  unfold Value.okWide at h
  rw [Tryd.underlying62] at h
  obtain ⟨cs, rfl, hs, hr⟩ := h
  obtain ⟨a, b, c, rfl⟩ := ints3 (hs.trans cells_ask) types_ask hr
  exact ⟨a, b, c, rfl⟩
end Go.Proofs.YtjbnabjjbofhjaaDoor.Fes
