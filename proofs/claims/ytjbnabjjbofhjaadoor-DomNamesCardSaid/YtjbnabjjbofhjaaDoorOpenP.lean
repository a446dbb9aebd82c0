/- A program that comes in. -/
import Derived.Test.YtjbnabjjbofhjaaDoorOpen
import Derived.Test.YtjbnabjjbofhjaaDoorW06d
set_option linter.unusedVariables false
set_option linter.unusedSimpArgs false
namespace Go.Proofs.YtjbnabjjbofhjaaDoor.Fes
open Go.RowKit Go.Proofs.YtjbnabjjbofhjaaDoorW.PrintWords

theorem wf_u8 {n : Int} (h : (Lit.int .u8 n).wf = true) : 0 ≤ n ∧ n ≤ 255 := by
  simp only [Lit.wf, Bool.and_eq_true, decide_eq_true_eq] at h
  exact h
theorem opens_ints : Opens Tryd.prog 28 (Kd.slice 3 (Kd.int .i64)) (fun xs => (∀ x ∈ xs, (Lit.int .i64 x).wf = true) ∧ xs.length ≤ 140737488351232) :=
  Opens.slice Tryd.underlying28 (by kernel_rfl) (of_decide_eq_true (by kernel_rfl)) (Opens.int Tryd.underlying3)
theorem opens_Typ : Opens Tryd.prog 87 kTyp (fun _ => True) :=
  ((Opens.struct Tryd.underlying87 (by kernel_rfl) (OpensF.cons (Opens.int Tryd.underlying5) rfl (by kernel_rfl) (by decide)
    (OpensF.cons (Opens.int Tryd.underlying3) rfl (by kernel_rfl) (by decide) (OpensF.cons (Opens.int Tryd.underlying3) rfl (by kernel_rfl) (by decide) (OpensF.one opens_ints rfl (by kernel_rfl)))))).iso
      (fun x : Typ => (x.kind, (x.elem, (x.many, x.parts)))) (fun t => ⟨t.1, t.2.1, t.2.2.1, t.2.2.2⟩) (fun _ => rfl)).weaken (fun _ _ => trivial)
theorem opens_Ins : Opens Tryd.prog 69 kIns (fun x => 0 ≤ x.op ∧ x.op ≤ 255) :=
  ((Opens.struct Tryd.underlying69 (by kernel_rfl) (OpensF.cons (Opens.int Tryd.underlying5) rfl (by kernel_rfl) (by decide)
    (OpensF.cons (Opens.int Tryd.underlying3) rfl (by kernel_rfl) (by decide) (OpensF.cons (Opens.int Tryd.underlying3) rfl (by kernel_rfl) (by decide) (OpensF.cons (Opens.int Tryd.underlying3) rfl (by kernel_rfl) (by decide)
      (OpensF.cons (Opens.int Tryd.underlying2) rfl (by kernel_rfl) (by decide) (OpensF.cons opens_ints rfl (by kernel_rfl) (by decide) (OpensF.one opens_ints rfl (by kernel_rfl))))))))).iso
        (fun x : Ins => (x.op, (x.typ, (x.a, (x.b, (x.n, (x.args, x.froms))))))) (fun t => ⟨t.1, t.2.1, t.2.2.1, t.2.2.2.1, t.2.2.2.2.1, t.2.2.2.2.2.1, t.2.2.2.2.2.2⟩) (fun _ => rfl)).weaken (fun _ h => wf_u8 h.1)
theorem opens_End : Opens Tryd.prog 45 kEn (fun _ => True) :=
  ((Opens.struct Tryd.underlying45 (by kernel_rfl) (OpensF.cons (Opens.int Tryd.underlying5) rfl (by kernel_rfl) (by decide)
    (OpensF.cons (Opens.int Tryd.underlying3) rfl (by kernel_rfl) (by decide) (OpensF.cons (Opens.int Tryd.underlying3) rfl (by kernel_rfl) (by decide) (OpensF.one (Opens.int Tryd.underlying3) rfl (by kernel_rfl)))))).iso
      (fun x : En => (x.kind, (x.a, (x.to, x.els)))) (fun t => ⟨t.1, t.2.1, t.2.2.1, t.2.2.2⟩) (fun _ => rfl)).weaken (fun _ _ => trivial)
theorem opens_Blk : Opens Tryd.prog 48 kBlk (fun b => (∀ x ∈ b.ins, 0 ≤ x.op ∧ x.op ≤ 255) ∧ b.ins.length ≤ 140737488351232) :=
  ((Opens.struct Tryd.underlying48 (by kernel_rfl) (OpensF.cons (Opens.slice Tryd.underlying46 (by kernel_rfl) (of_decide_eq_true (by kernel_rfl)) opens_Ins) rfl (by kernel_rfl) (by decide) (OpensF.one opens_End rfl (by kernel_rfl)))).iso
      (fun x : Blk => (x.ins, x.en)) (fun t => ⟨t.1, t.2⟩) (fun _ => rfl)).weaken (fun _ h => h.1)
theorem opens_Func : Opens Tryd.prog 51 kFc (fun f => ∀ b ∈ f.blocks, (∀ x ∈ b.ins, 0 ≤ x.op ∧ x.op ≤ 255) ∧ b.ins.length ≤ 140737488351232) :=
  ((Opens.struct Tryd.underlying51 (by kernel_rfl) (OpensF.cons (Opens.int Tryd.underlying3) rfl (by kernel_rfl) (by decide) (OpensF.one (Opens.slice Tryd.underlying49 (by kernel_rfl) (of_decide_eq_true (by kernel_rfl)) opens_Blk) rfl (by kernel_rfl)))).iso
      (fun x : Fc => (x.sig, x.blocks)) (fun t => ⟨t.1, t.2⟩) (fun _ => rfl)).weaken (fun _ h => h.2.1)
theorem opens_Prg : Opens Tryd.prog 25 kPrg (fun p => WfP p ∧ ∀ f ∈ p.funcs, ∀ b ∈ f.blocks, b.ins.length ≤ 140737488351232) :=
  ((Opens.struct Tryd.underlying25 (by kernel_rfl) (OpensF.cons (Opens.slice Tryd.underlying22 (by kernel_rfl) (of_decide_eq_true (by kernel_rfl)) opens_Typ) rfl (by kernel_rfl) (by decide)
    (OpensF.one (Opens.slice Tryd.underlying23 (by kernel_rfl) (of_decide_eq_true (by kernel_rfl)) opens_Func) rfl (by kernel_rfl)))).iso
      (fun x : Prg => (x.types, x.funcs)) (fun t => ⟨t.1, t.2⟩) (fun _ => rfl)).weaken (fun p h => ⟨fun f hf b hb x hx => (h.2.1 f hf b hb).1 x hx, fun f hf b hb => (h.2.1 f hf b hb).2⟩)
end Go.Proofs.YtjbnabjjbofhjaaDoor.Fes
