/- Rows of elements of any kind that a call makes for itself. -/
import Derived.Test.YtjbnabjjbofhjaaDoorLib
set_option linter.unusedVariables false
set_option linter.unusedSimpArgs false
namespace Go.Proofs.YtjbnabjjbofhjaaDoor.Fes
open Go.RowKit Go.Proofs.YtjbnabjjbofhjaaDoorW.PrintWords

/-- A row of elements of any kind of the call's own (the call began in w). -/
def OwnS {α : Type} (d : Kd α) (e : Nat) (w W : World) (v : Value) (xs : List α) : Prop := d.R e W w.heap.size (fun _ => True) v xs
/-- What such an element's cells say. -/
def MadeS {α : Type} (d : Kd α) (w W : World) (x : α) (cs : List Value) : Prop := d.M W w.heap.size (fun _ => True) x cs
theorem OwnS.nil {α : Type} (d : Kd α) (e : Nat) (w W : World) : OwnS d e w W (.slice none 0 0) [] := Kd.R_nil _ _ _ _ _
theorem OwnS.ext {α : Type} {d : Kd α} {e : Nat} {w W W1 : World} {v : Value} {xs : List α} (h : OwnS d e w W v xs) (he : Ext W W1) : OwnS d e w W1 v xs := Kd.R_below h he.b
theorem MadeS.ext {α : Type} {d : Kd α} {w W W1 : World} {x : α} {cs : List Value} (h : MadeS d w W x cs) (he : Ext W W1) : MadeS d w W1 x cs := Kd.M_below h he.b
theorem OwnS.lower {α : Type} {d : Kd α} {e : Nat} {w w0 W : World} {v : Value} {xs : List α} (h : OwnS d e w W v xs) (he : Ext w0 w) : OwnS d e w0 W v xs := Kd.R_lower h he.size
theorem OwnS.reads {α : Type} {d : Kd α} {e : Nat} {w W : World} {v : Value} {xs : List α} (h : OwnS d e w W v xs) : ∃ A c, v = .slice A xs.length c ∧ xs.length ≤ c ∧ Kd.C d W A xs.length xs := Kd.R_reads h
theorem heap_new (W : World) (o : Obj) : (W.alloc o).heap[W.heap.size]? = some o := heap_alloc_new W o
theorem Ext.blk {w W : World} (h : Ext w W) {g : Nat} {o : Obj} (hb : w.heap[g]? = some o) : W.heap[g]? = some o := (h.b.block g (blk_lt hb)).trans hb
/-- A store into a block of another element type (a variable's box) leaves it alone. -/
theorem OwnS.set {α : Type} {d : Kd α} {e : Nat} {w W : World} {v : Value} {xs : List α} (h : OwnS d e w W v xs) {g q : Nat} {cells : Array Value} (hb : W.heap[g]? = some (.cells cells q (0, 0))) (hq : ∀ z, z ∈ e :: d.E → z ≠ q) (j : Nat) (u : Value) : OwnS d e w (W.setCell ⟨g, j, none⟩ u) v xs := Kd.R_set h hb hq j u
/-- A store into a block that is younger than the row. -/
theorem OwnS.young {α : Type} {d : Kd α} {e : Nat} {w W W1 : World} {v : Value} {xs : List α} (h : OwnS d e w W v xs) (he : Ext W W1) {p : Addr} (hp : W.heap.size ≤ p.block) (u : Value) : OwnS d e w (W1.setCell p u) v xs :=
  Kd.R_mono (Kd.R_far (Kd.R_below (Kd.R_bound h) he.b) (fun k hk => by have := hk.2.2.1; omega) u) (fun _ _ => trivial)
/-- A store into a block that is elder than the row. -/
theorem OwnS.elder {α : Type} {d : Kd α} {e : Nat} {w W : World} {v : Value} {xs : List α} (h : OwnS d e w W v xs) {p : Addr} (hp : p.block < w.heap.size) (u : Value) : OwnS d e w (W.setCell p u) v xs :=
  Kd.R_mono (Kd.R_far (Kd.R_bound h) (fun k hk => by have := hk.2.1; omega) u) (fun _ _ => trivial)
section
variable {ops : Array Oper} {rest : List Oper} {o : Oper} {a : Act} {Q : Exit → Act → World → Prop} {w W : World}
/-- append(v, x), x of any kind. -/
theorem app_el {α : Type} (d : Kd α) {e t : TypeId} {z : Value} {bytes : Nat} (ht : Tryd.prog.underlying t = some (.slice e)) (hinfo : (Tryd.prog.info? e).map (fun i => (i.zero, i.size, i.bytes)) = some (some z, d.sz, bytes)) (hz : z.cells.size = d.sz) (hs0 : 0 < d.sz) (hb0 : 0 < bytes) (hb1 : bytes ≤ 100)
    (hE : ∀ q, q ∈ d.E → q ≠ e) {s x : Operand} {v : Value} {xs : List α} {y : α} {cs : List Value} (ho : o.op = .call { callee := .builtin .append, args := #[s, x], argTypes := #[t, t] }) (hgd : o.guard = none)
    (hs : a.eval s = v) (hx : a.eval x = .slice (some ⟨W.heap.size, 0, none⟩) 1 1) (HO : OwnS d e w W v xs) (HM : MadeS d w W y cs) (hW : Ext w W) (hl : xs.length ≤ 1000000000)
    (h : ∀ v1 w1, OwnS d e w w1 v1 (xs ++ [y]) → Ext w w1 → W.grownBy w1 v.ownBlock → (v1.ownBlock = v.ownBlock ∨ ∃ b, v1.ownBlock = some b ∧ W.heap.size ≤ b) → wpList Tryd.prog ops Q rest (a.put o.dst v1) w1) :
    wpList Tryd.prog ops Q (o :: rest) a (W.alloc (.cells cs.toArray e)) := by
  refine Kd.R_append d (w0 := w) w.heap.size hgd s x t e z bytes ho ht hinfo hz hs0 hb0 v xs y cs (fun _ => True) _ hs hx (d.M_bound HM) ?_ (fun _ _ => trivial) HO hW.b hW.size ?_ (fun v1 w1 h1 h2 h3 h4 => h v1 w1 h1 ⟨h2⟩ h3 h4)
  · rintro k ⟨_, _, _, q, hq, cells, hc⟩
    refine ⟨trivial, fun he => ?_⟩
    obtain ⟨cells', hc'⟩ := Kd.R_typed HO k he.symm
    rw [hc] at hc'
    injection hc' with hc'
    injection hc' with _ hc'
    exact hE q hq hc'
  · have : (xs.length + 1) * bytes ≤ 1000000001 * 100 := Nat.mul_le_mul (by omega) hb1
    omega
end
end Go.Proofs.YtjbnabjjbofhjaaDoor.Fes
