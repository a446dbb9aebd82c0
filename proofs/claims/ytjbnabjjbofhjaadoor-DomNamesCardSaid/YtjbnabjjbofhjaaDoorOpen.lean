/- Arguments opened by kinds: what is read of a type lies in memory as its kind says. -/
import Derived.Test.YtjbnabjjbofhjaaDoorKinds
import Derived.ChangeArms
import Derived.SizedLaws
set_option linter.unusedVariables false
set_option linter.unusedSimpArgs false
namespace Go.Proofs.YtjbnabjjbofhjaaDoor.Fes
open Go.RowKit Go.Proofs.YtjbnabjjbofhjaaDoorW.PrintWords Go.WideShapes Go.ChangeShapes

def Opens {α : Type} (P : Program) (t : TypeId) (d : Kd α) (G : α → Prop) : Prop :=
  ∀ (H : Type) (enc : TypeId × Value → H) (w : World) (base : Nat) (held : Bool) (fuel : Nat) (cs : List Value) (x : DataW H × List MemPlace),
    DataW.trod enc P w base (fun _ => true) held fuel t cs = some x → (DataW.weights P t x.1).all (· ≤ reachBytes) = true → ∃ y, d.K w y cs ∧ G y
theorem weightsAll_mem {H : Type} {P : Program} {e : TypeId} {p : Nat → Bool} : ∀ {ds : List (DataW H)} {d : DataW H}, (DataW.weightsAll P e ds).all p = true → d ∈ ds → (DataW.weights P e d).all p = true
  | [], _, _, h => by simp at h
  | d0 :: ds, d, h, hd => by
    simp only [DataW.weightsAll, List.all_append, Bool.and_eq_true] at h
    rcases List.mem_cons.1 hd with rfl | hd
    · exact h.1
    · exact weightsAll_mem h.2 hd
theorem Opens.int {P : Program} {t : TypeId} {k : IntKind} (ht : P.underlying t = some (.int k)) : Opens P t (Kd.int k) (fun n => (Lit.int k n).wf = true) := by
  intro H enc w base held fuel cs x h _
  obtain ⟨n, rfl, _, hw⟩ := DataW.trod_int ht h
  exact ⟨n, rfl, hw⟩
theorem Opens.bool {P : Program} {t : TypeId} (ht : P.underlying t = some .bool) : Opens P t Kd.bool (fun _ => True) := by
  intro H enc w base held fuel cs x h _
  obtain ⟨b, rfl, _⟩ := DataW.trod_bool ht h
  exact ⟨b, rfl, trivial⟩
theorem add_add_ (a : Addr) (i j : Nat) : (a.add i).add j = a.add (i + j) := by
  unfold Addr.add
  by_cases hi : i = 0
  · subst hi; simp
  · by_cases hj : j = 0
    · subst hj; simp
    · have : i + j ≠ 0 := by omega
      simp [hi, hj, Nat.add_assoc]
theorem Opens.slice {α : Type} {P : Program} {t e e' : TypeId} {d : Kd α} {G : α → Prop} (ht : P.underlying t = some (.slice e)) (hc : P.cellsOf e = d.sz) (hB : 0 < P.bytesOf e) (he : Opens P e d G) : Opens P t (Kd.slice e' d) (fun xs => (∀ x ∈ xs, G x) ∧ xs.length ≤ 140737488351232) := by
  intro H enc w base held fuel cs x h hz
  rcases DataW.trod_slice ht h with ⟨rfl, _⟩ | ⟨a, len, cap, elems, rest, n, _, rfl, rfl, hb, hl, hm, hlen, hel, _, _⟩
  · exact ⟨[], ⟨none, 0, rfl, Nat.le_refl _, ⟨rfl, by simp, fun h => absurd h (by simp)⟩⟩, by simp⟩
  · simp only [DataW.weights, ht, List.all_cons, List.all_append, Bool.and_eq_true, decide_eq_true_eq, List.length_map] at hz
    have hlz : len ≤ 140737488351232 := by
      have h1 : (elems.length + rest.length) * 1 ≤ (elems.length + rest.length) * P.bytesOf e := Nat.mul_le_mul_left _ hB
      have h2 := hz.1
      unfold reachBytes at h2
      omega
    have each : ∀ i : Fin len, ∃ y, (∃ c : List Value, d.K w y c ∧ ∀ j u, c[j]? = some u → w.cell? (a.add (i.1 * d.sz + j)) = some u) ∧ G y := by
      intro i
      have h1 := hel i.1 i.2
      have hi : i.1 < elems.length := by omega
      rw [List.getElem?_eq_getElem hi, Option.bind_eq_some_iff] at h1
      obtain ⟨c, hcs, hy⟩ := h1
      obtain ⟨y, hK, hG⟩ := he H enc w base held n c _ hy (weightsAll_mem hz.2.1 (List.mem_map_of_mem (List.getElem_mem hi)))
      refine ⟨y, ⟨c, hK, fun j u hu => ?_⟩, hG⟩
      have hj := (World.cells?_some hcs).2.2 j (by have := (List.getElem?_eq_some_iff.1 hu).1; have := (World.cells?_some hcs).2.1; omega)
      rw [hu, add_add_, hc] at hj
      exact hj
    have hx : ∃ f : Fin len → α, ∀ i, (∃ c : List Value, d.K w (f i) c ∧ ∀ j u, c[j]? = some u → w.cell? (a.add (i.1 * d.sz + j)) = some u) ∧ G (f i) :=
      ⟨fun i => (each i).choose, fun i => (each i).choose_spec⟩
    obtain ⟨f, hf⟩ := hx
    have hln : (List.ofFn f).length = len := by simp
    refine ⟨List.ofFn f, ⟨some a, cap, by rw [hln], by rw [hln]; exact hl, ⟨rfl, by rw [hln]; unfold maxLen at hm; omega, fun _ => ⟨a, rfl, fun j p hj => ?_⟩⟩⟩, ?_⟩
    · obtain ⟨hjl, hjp⟩ := List.getElem?_eq_some_iff.1 hj
      rw [hln] at hjl
      rw [List.getElem_ofFn] at hjp
      obtain ⟨⟨c, hK, hcell⟩, _⟩ := hf ⟨j, hjl⟩
      rw [hjp] at hK
      exact ⟨c, d.K_len hK, hK, hcell⟩
    · refine ⟨?_, by rw [hln]; exact hlz⟩
      intro x hx
      rw [List.mem_ofFn] at hx
      obtain ⟨i, rfl⟩ := hx
      exact (hf i).2
/-- .. fields, from one on -/
def OpensF {α : Type} (P : Program) (off : Nat) (fs : List Field) (d : Kd α) (G : α → Prop) : Prop :=
  ∀ (H : Type) (enc : TypeId × Value → H) (w : World) (base : Nat) (held : Bool) (n : Nat) (cs : List Value), cs.length = d.sz →
    (∀ f ∈ fs, ∃ x, DataW.trod enc P w base (fun _ => true) held n f.type ((cs.drop (f.offset - off)).take (P.cellsOf f.type)) = some x ∧ (DataW.weights P f.type x.1).all (· ≤ reachBytes) = true) → ∃ y, d.K w y cs ∧ G y
theorem OpensF.one {α : Type} {P : Program} {off : Nat} {f : Field} {d : Kd α} {G : α → Prop} (h : Opens P f.type d G) (ho : f.offset = off) (hc : P.cellsOf f.type = d.sz) : OpensF P off [f] d G := by
  intro H enc w base held n cs hl hf
  obtain ⟨x, hx, hz⟩ := hf f (by simp)
  rw [ho, Nat.sub_self, List.drop_zero, hc, ← hl, List.take_length] at hx
  exact h H enc w base held n cs x hx hz
theorem OpensF.cons {α β : Type} {P : Program} {off : Nat} {f : Field} {fs : List Field} {d : Kd α} {G : α → Prop} {d' : Kd β} {G' : β → Prop} (h : Opens P f.type d G) (ho : f.offset = off) (hc : P.cellsOf f.type = d.sz)
    (hoff : ∀ g ∈ fs, off + d.sz ≤ g.offset) (h' : OpensF P (off + d.sz) fs d' G') : OpensF P off (f :: fs) (Kd.pair d d') (fun x => G x.1 ∧ G' x.2) := by
  intro H enc w base held n cs hl hf
  obtain ⟨x, hx, hz0⟩ := hf f (by simp)
  rw [ho, Nat.sub_self, List.drop_zero, hc] at hx
  obtain ⟨y, hK, hG⟩ := h H enc w base held n _ x hx hz0
  have hsz : (Kd.pair d d').sz = d.sz + d'.sz := rfl
  obtain ⟨y', hK', hG'⟩ := h' H enc w base held n (cs.drop d.sz) (by rw [List.length_drop, hl, hsz]; omega) (fun g hg => by
    obtain ⟨z, hz, hzw⟩ := hf g (by simp [hg])
    refine ⟨z, ?_, hzw⟩
    have := hoff g hg
    rw [List.drop_drop, show d.sz + (g.offset - (off + d.sz)) = g.offset - off by omega]
    exact hz)
  exact ⟨(y, y'), ⟨_, _, (List.take_append_drop d.sz cs).symm, hK, hK'⟩, hG, hG'⟩
theorem Opens.struct {α : Type} {P : Program} {t : TypeId} {fs : Array Field} {d : Kd α} {G : α → Prop} (ht : P.underlying t = some (.struct fs)) (hc : P.cellsOf t = d.sz) (h : OpensF P 0 fs.toList d G) : Opens P t d G := by
  intro H enc w base held fuel cs x hx hz
  obtain ⟨xs, n, _, rfl, hl, hxl, hf⟩ := DataW.trod_struct ht hx
  simp only [DataW.weights, ht] at hz
  refine h H enc w base held n cs (by rw [hl, hc]) (fun f hfm => ?_)
  obtain ⟨i, hi, rfl⟩ := List.getElem_of_mem hfm
  have hi' : i < fs.size := by simpa using hi
  have := hf i fs[i] (Array.getElem?_eq_getElem hi')
  rw [List.getElem?_eq_getElem (by omega)] at this
  refine ⟨_, by simpa using this, ?_⟩
  refine List.all_eq_true.2 fun n hn => List.all_eq_true.1 hz n (DataW.weights_mem_each (j := i) (t := fs[i].type) (d := (xs[i]'(by omega)).1) (by simp [hi']) (by simp [show i < xs.length by omega]) n (by simpa using hn))
theorem Opens.iso {α β : Type} {P : Program} {t : TypeId} {d : Kd α} {G : α → Prop} (f : β → α) (g : α → β) (hfg : ∀ a, f (g a) = a) (h : Opens P t d G) : Opens P t (Kd.iso d f) (fun b => G (f b)) := by
  intro H enc w base held fuel cs x hx hz
  obtain ⟨y, hK, hG⟩ := h H enc w base held fuel cs x hx hz
  refine ⟨g y, ?_, ?_⟩
  · show d.K w (f (g y)) cs
    rw [hfg]; exact hK
  · show G (f (g y))
    rw [hfg]; exact hG
theorem Opens.weaken {α : Type} {P : Program} {t : TypeId} {d : Kd α} {G G' : α → Prop} (h : Opens P t d G) (hG : ∀ x, G x → G' x) : Opens P t d G' := by
  intro H enc w base held fuel cs x hx hz
  obtain ⟨y, hK, hy⟩ := h H enc w base held fuel cs x hx hz
  exact ⟨y, hK, hG y hy⟩
end Go.Proofs.YtjbnabjjbofhjaaDoor.Fes
