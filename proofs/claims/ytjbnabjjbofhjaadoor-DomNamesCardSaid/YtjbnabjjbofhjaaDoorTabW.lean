/- The package's table, as a row lists it; a world in which it lies. -/
import Derived.Test.YtjbnabjjbofhjaaDoorTie
import Derived.Test.YtjbnabjjbofhjaaDoorW06
import Derived.Lib.LaidTab
import Derived.SizedLaws
set_option linter.unusedVariables false
set_option linter.unusedSimpArgs false
namespace Go.Proofs.YtjbnabjjbofhjaaDoor.Fes
open Go.RowKit Go.Proofs.YtjbnabjjbofhjaaDoorW.PrintWords Go.WideShapes Go.ChangeShapes

theorem gTab : Tryd.prog.globalNamed "fescue/shape.table" = some 0 := by kernel_rfl
def hasD {H : Type} (h : Has) : DataW H := .agg [.lit (.bool h.a), .lit (.bool h.b), .lit (.bool h.n), .lit (.bool h.args), .lit (.bool h.froms), .lit (.bool h.ans)]
theorem laid_is {H : Type} : (Rows.laid_fescue_shape_table : DataW H) = .agg (hasL.map hasD) := rfl
theorem trod_has {H : Type} {enc : TypeId × Value → H} {w : World} {base : Nat} {sp : Nat → Bool} {held : Bool} {fuel : Nat} {cs : List Value} {h : Has} {p : List MemPlace}
    (ht : DataW.trod enc Tryd.prog w base sp held fuel 121 cs = some (hasD h, p)) : cs = hasCells h := by
  obtain ⟨xs, n, _, hx, hl, hxl, hf⟩ := DataW.trod_struct Tryd.underlying121 ht
  have hl6 : cs.length = 6 := by rw [hl]; kernel_rfl
  have hc1 : Tryd.prog.cellsOf 4 = 1 := by kernel_rfl
  obtain ⟨hx1, _⟩ := Prod.mk.inj hx
  have hm : xs.map (·.1) = [.lit (.bool h.a), .lit (.bool h.b), .lit (.bool h.n), .lit (.bool h.args), .lit (.bool h.froms), .lit (.bool h.ans)] := by
    have := hx1.symm
    unfold hasD at this
    injection this
  have key : ∀ (i : Nat) (b : Bool) (f : Field), i < 6 → (xs.map (·.1))[i]? = some (.lit (.bool b)) → Tryd.prog.underlying 121 = Tryd.prog.underlying 121 → DataW.trod enc Tryd.prog w base sp held n 4 ((cs.drop i).take 1) = xs[i]? → cs[i]? = some (.bool b) := by
    intro i b f hi hb _ h1
    rw [List.getElem?_map, Option.map_eq_some_iff] at hb
    obtain ⟨y, hy, hyb⟩ := hb
    rw [hy] at h1
    obtain ⟨b', hc, he⟩ := DataW.trod_bool Tryd.underlying4 h1
    subst he
    obtain rfl : b' = b := by simpa using hyb
    have := congrArg (·[0]?) hc
    simpa [List.getElem?_take, List.getElem?_drop] using this
  have h0 := hf 0 _ rfl
  change DataW.trod enc Tryd.prog w base sp held n 4 ((cs.drop 0).take (Tryd.prog.cellsOf 4)) = _ at h0
  rw [hc1] at h0
  have f0 := key 0 h.a default (by omega) (by rw [hm]; rfl) rfl h0
  have h1 := hf 1 _ rfl
  change DataW.trod enc Tryd.prog w base sp held n 4 ((cs.drop 1).take (Tryd.prog.cellsOf 4)) = _ at h1
  rw [hc1] at h1
  have f1 := key 1 h.b default (by omega) (by rw [hm]; rfl) rfl h1
  have h2 := hf 2 _ rfl
  change DataW.trod enc Tryd.prog w base sp held n 4 ((cs.drop 2).take (Tryd.prog.cellsOf 4)) = _ at h2
  rw [hc1] at h2
  have f2 := key 2 h.n default (by omega) (by rw [hm]; rfl) rfl h2
  have h3 := hf 3 _ rfl
  change DataW.trod enc Tryd.prog w base sp held n 4 ((cs.drop 3).take (Tryd.prog.cellsOf 4)) = _ at h3
  rw [hc1] at h3
  have f3 := key 3 h.args default (by omega) (by rw [hm]; rfl) rfl h3
  have h4 := hf 4 _ rfl
  change DataW.trod enc Tryd.prog w base sp held n 4 ((cs.drop 4).take (Tryd.prog.cellsOf 4)) = _ at h4
  rw [hc1] at h4
  have f4 := key 4 h.froms default (by omega) (by rw [hm]; rfl) rfl h4
  have h5 := hf 5 _ rfl
  change DataW.trod enc Tryd.prog w base sp held n 4 ((cs.drop 5).take (Tryd.prog.cellsOf 4)) = _ at h5
  rw [hc1] at h5
  have f5 := key 5 h.ans default (by omega) (by rw [hm]; rfl) rfl h5
  apply List.ext_getElem?
  intro i
  rcases Nat.lt_or_ge i 6 with hi | hi
  · rcases (show i = 0 ∨ i = 1 ∨ i = 2 ∨ i = 3 ∨ i = 4 ∨ i = 5 by omega) with rfl | rfl | rfl | rfl | rfl | rfl
    · exact f0
    · exact f1
    · exact f2
    · exact f3
    · exact f4
    · exact f5
  · rw [List.getElem?_eq_none (by omega), List.getElem?_eq_none (by simp [hasCells]; omega)]
set_option maxRecDepth 100000 in
theorem tab_of {rest : List (String × DataW Unit)} {W : World} (h : laidMetH Tryd.prog (("fescue/shape.table", Rows.laid_fescue_shape_table) :: rest) W) : Tab W := by
  have h1 : laidMet Tryd.prog (("fescue/shape.table", Rows.laid_fescue_shape_table) :: (rest.filter fun x => x.2.handleName?.isNone)) W := by
    unfold laidMetH at h
    split at h
    · rename_i he
      have e : (("fescue/shape.table", Rows.laid_fescue_shape_table) :: rest).filter (fun x => x.2.handleName?.isSome) = rest.filter (fun x => x.2.handleName?.isSome) := rfl
      rw [e] at he
      have : rest.filter (fun x => x.2.handleName?.isNone) = rest := List.filter_eq_self.2 fun x hx => by
        cases hs : x.2.handleName? with
        | none => rfl
        | some v => exact absurd (show x ∈ rest.filter (fun x => x.2.handleName?.isSome) from List.mem_filter.2 ⟨hx, (congrArg Option.isSome hs : _)⟩) (by rw [he]; exact List.not_mem_nil)
      rw [this]
      exact h
    · exact h.1
  clear h
  obtain ⟨ps, ⟨g', t', cs, fuel, p, q, hg', ht', hvar, hd, _, _⟩, _⟩ := h1
  obtain rfl := Option.some.inj (gTab.symm.trans hg')
  have hty : (Tryd.prog.globals[0]?).map (·.type) = some ((Tryd.prog.globals[0]?).map (·.type) |>.getD 0) := by kernel_rfl
  generalize hE : ((Tryd.prog.globals[0]?).map (·.type) |>.getD 0) = T at hty
  obtain rfl := Option.some.inj (hty.symm.trans ht')
  have hu : Tryd.prog.underlying T = some (.array 23 121) := by rw [← hE]; kernel_rfl
  have hct : Tryd.prog.cellsOf T = 138 := by rw [← hE]; kernel_rfl
  have hce : Tryd.prog.cellsOf 121 = 6 := by kernel_rfl
  cases fuel with
  | zero => simp [DataW.trod] at hd
  | succ fuel =>
    simp only [DataW.trod, hu, hce, hct, Nat.reduceMul] at hd
    split at hd
    · rename_i hl
      obtain ⟨xs, hm, hx⟩ := Option.map_eq_some_iff.1 hd
      have hxs : xs.map (·.1) = hasL.map hasD := by
        have := congrArg Prod.fst hx
        rw [laid_is] at this
        simpa using this
      intro k hk j v hv
      obtain ⟨b, hb, hf⟩ := Lib.mapM_at hm k k (by simp [hk])
      have h2 : (xs.map (·.1))[k]? = some b.1 := by simp [hb]
      rw [hxs] at h2
      have hkl : k < hasL.length := hk
      simp only [List.getElem?_map, List.getElem?_eq_getElem hkl, Option.map_some, Option.some.injEq] at h2
      obtain ⟨b1, b2⟩ := b
      simp only at h2
      subst h2
      have hc := trod_has hf
      have hj : j < 6 := by
        have := (List.getElem?_eq_some_iff.1 hv).1
        simpa [hasCells] using this
      have hgd : hasL.getD k noHas = hasL[k] := by simp [List.getD_eq_getElem?_getD, List.getElem?_eq_getElem hkl]
      rw [hgd, ← hc] at hv
      have hv' : cs[k * 6 + j]? = some v := by simpa [List.getElem?_take, List.getElem?_drop, hj] using hv
      have := World.var?_cell gTab hvar (k * 6 + j)
      simpa [hv'] using this
    · cases hd
/-- A world for the witness. -/
noncomputable def laidWorld (os : Os) : World :=
  { World.holding Tryd.prog os ⟨#[], #[], []⟩ with heap := (World.holding Tryd.prog os ⟨#[], #[], []⟩).heap.modify 0 fun
      | .cells _ t frozen => .cells (hasL.flatMap hasCells).toArray t frozen
      | o => o }
end Go.Proofs.YtjbnabjjbofhjaaDoor.Fes
