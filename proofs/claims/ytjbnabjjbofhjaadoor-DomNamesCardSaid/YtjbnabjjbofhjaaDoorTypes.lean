/- The program's data as plain Lean structures (no Go in sight). -/
set_option linter.unusedVariables false
namespace Go.Proofs.YtjbnabjjbofhjaaDoor.Fes

structure Typ where
  kind : Int
  elem : Int
  many : Int
  parts : List Int
theorem Typ.ext_iff_ {x y : Typ} : (x.kind = y.kind ∧ x.elem = y.elem ∧ x.many = y.many ∧ x.parts = y.parts) ↔ x = y := ⟨fun h => by obtain ⟨h0, h1, h2, h3⟩ := h; cases x; cases y; simp only at *; subst_vars; rfl, fun h => by subst h; exact ⟨rfl, rfl, rfl, rfl⟩⟩
instance : DecidableEq Typ := fun x y => decidable_of_iff _ Typ.ext_iff_
def zTyp : Typ := ⟨0, 0, 0, []⟩

structure Ins where
  op : Int
  typ : Int
  a : Int
  b : Int
  n : Int
  args : List Int
  froms : List Int
theorem Ins.ext_iff_ {x y : Ins} : (x.op = y.op ∧ x.typ = y.typ ∧ x.a = y.a ∧ x.b = y.b ∧ x.n = y.n ∧ x.args = y.args ∧ x.froms = y.froms) ↔ x = y := ⟨fun h => by obtain ⟨h0, h1, h2, h3, h4, h5, h6⟩ := h; cases x; cases y; simp only at *; subst_vars; rfl, fun h => by subst h; exact ⟨rfl, rfl, rfl, rfl, rfl, rfl, rfl⟩⟩
instance : DecidableEq Ins := fun x y => decidable_of_iff _ Ins.ext_iff_
def zIns : Ins := ⟨0, 0, 0, 0, 0, [], []⟩

structure En where
  kind : Int
  a : Int
  to : Int
  els : Int
theorem En.ext_iff_ {x y : En} : (x.kind = y.kind ∧ x.a = y.a ∧ x.to = y.to ∧ x.els = y.els) ↔ x = y := ⟨fun h => by obtain ⟨h0, h1, h2, h3⟩ := h; cases x; cases y; simp only at *; subst_vars; rfl, fun h => by subst h; exact ⟨rfl, rfl, rfl, rfl⟩⟩
instance : DecidableEq En := fun x y => decidable_of_iff _ En.ext_iff_
def zEn : En := ⟨0, 0, 0, 0⟩

structure Blk where
  ins : List Ins
  en : En
theorem Blk.ext_iff_ {x y : Blk} : (x.ins = y.ins ∧ x.en = y.en) ↔ x = y := ⟨fun h => by obtain ⟨h0, h1⟩ := h; cases x; cases y; simp only at *; subst_vars; rfl, fun h => by subst h; exact ⟨rfl, rfl⟩⟩
instance : DecidableEq Blk := fun x y => decidable_of_iff _ Blk.ext_iff_
def zBlk : Blk := ⟨[], zEn⟩

structure Fc where
  sig : Int
  blocks : List Blk
theorem Fc.ext_iff_ {x y : Fc} : (x.sig = y.sig ∧ x.blocks = y.blocks) ↔ x = y := ⟨fun h => by obtain ⟨h0, h1⟩ := h; cases x; cases y; simp only at *; subst_vars; rfl, fun h => by subst h; exact ⟨rfl, rfl⟩⟩
instance : DecidableEq Fc := fun x y => decidable_of_iff _ Fc.ext_iff_
def zFc : Fc := ⟨0, []⟩

structure Prg where
  types : List Typ
  funcs : List Fc
theorem Prg.ext_iff_ {x y : Prg} : (x.types = y.types ∧ x.funcs = y.funcs) ↔ x = y := ⟨fun h => by obtain ⟨h0, h1⟩ := h; cases x; cases y; simp only at *; subst_vars; rfl, fun h => by subst h; exact ⟨rfl, rfl⟩⟩
instance : DecidableEq Prg := fun x y => decidable_of_iff _ Prg.ext_iff_
def zPrg : Prg := ⟨[], []⟩

structure Wd where
  pos : Int
  bits : Int
theorem Wd.ext_iff_ {x y : Wd} : (x.pos = y.pos ∧ x.bits = y.bits) ↔ x = y := ⟨fun h => by obtain ⟨h0, h1⟩ := h; cases x; cases y; simp only at *; subst_vars; rfl, fun h => by subst h; exact ⟨rfl, rfl⟩⟩
instance : DecidableEq Wd := fun x y => decidable_of_iff _ Wd.ext_iff_
def zWd : Wd := ⟨0, 0⟩

structure Vl where
  kind : Int
  n : Int
  block : Int
  pos : Int
theorem Vl.ext_iff_ {x y : Vl} : (x.kind = y.kind ∧ x.n = y.n ∧ x.block = y.block ∧ x.pos = y.pos) ↔ x = y := ⟨fun h => by obtain ⟨h0, h1, h2, h3⟩ := h; cases x; cases y; simp only at *; subst_vars; rfl, fun h => by subst h; exact ⟨rfl, rfl, rfl, rfl⟩⟩
instance : DecidableEq Vl := fun x y => decidable_of_iff _ Vl.ext_iff_
def zVl : Vl := ⟨0, 0, 0, 0⟩

structure Bk where
  site : Int
  typ : Int
  depth : Int
  alive : Bool
  cells : List Vl
theorem Bk.ext_iff_ {x y : Bk} : (x.site = y.site ∧ x.typ = y.typ ∧ x.depth = y.depth ∧ x.alive = y.alive ∧ x.cells = y.cells) ↔ x = y := ⟨fun h => by obtain ⟨h0, h1, h2, h3, h4⟩ := h; cases x; cases y; simp only at *; subst_vars; rfl, fun h => by subst h; exact ⟨rfl, rfl, rfl, rfl, rfl⟩⟩
instance : DecidableEq Bk := fun x y => decidable_of_iff _ Bk.ext_iff_
def zBk : Bk := ⟨0, 0, 0, false, []⟩

structure Fr where
  func : Int
  block : Int
  pos : Int
  regs : List Vl
  into : Int
theorem Fr.ext_iff_ {x y : Fr} : (x.func = y.func ∧ x.block = y.block ∧ x.pos = y.pos ∧ x.regs = y.regs ∧ x.into = y.into) ↔ x = y := ⟨fun h => by obtain ⟨h0, h1, h2, h3, h4⟩ := h; cases x; cases y; simp only at *; subst_vars; rfl, fun h => by subst h; exact ⟨rfl, rfl, rfl, rfl, rfl⟩⟩
instance : DecidableEq Fr := fun x y => decidable_of_iff _ Fr.ext_iff_
def zFr : Fr := ⟨0, 0, 0, [], 0⟩

structure Ev where
  kind : Int
  n : Int
theorem Ev.ext_iff_ {x y : Ev} : (x.kind = y.kind ∧ x.n = y.n) ↔ x = y := ⟨fun h => by obtain ⟨h0, h1⟩ := h; cases x; cases y; simp only at *; subst_vars; rfl, fun h => by subst h; exact ⟨rfl, rfl⟩⟩
instance : DecidableEq Ev := fun x y => decidable_of_iff _ Ev.ext_iff_
def zEv : Ev := ⟨0, 0⟩

structure Mc where
  mem : List Bk
  frames : List Fr
  inp : List Int
  used : Int
  events : List Ev
  steps : Int
  heaps : Int
  state : Int
  trap : Int
  exit : Int
theorem Mc.ext_iff_ {x y : Mc} : (x.mem = y.mem ∧ x.frames = y.frames ∧ x.inp = y.inp ∧ x.used = y.used ∧ x.events = y.events ∧ x.steps = y.steps ∧ x.heaps = y.heaps ∧ x.state = y.state ∧ x.trap = y.trap ∧ x.exit = y.exit) ↔ x = y := ⟨fun h => by obtain ⟨h0, h1, h2, h3, h4, h5, h6, h7, h8, h9⟩ := h; cases x; cases y; simp only at *; subst_vars; rfl, fun h => by subst h; exact ⟨rfl, rfl, rfl, rfl, rfl, rfl, rfl, rfl, rfl, rfl⟩⟩
instance : DecidableEq Mc := fun x y => decidable_of_iff _ Mc.ext_iff_
def zMc : Mc := ⟨[], [], [], 0, [], 0, 0, 0, 0, 0⟩

end Go.Proofs.YtjbnabjjbofhjaaDoor.Fes
