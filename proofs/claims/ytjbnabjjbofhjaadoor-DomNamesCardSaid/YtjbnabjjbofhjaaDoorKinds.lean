/- How the program's data lie in memory: kinds (the words of print.sh), element by element. -/
import Derived.Test.YtjbnabjjbofhjaaDoorTypes
import Derived.Test.YtjbnabjjbofhjaaDoorExt
set_option linter.unusedVariables false
set_option linter.unusedSimpArgs false
namespace Go.Proofs.YtjbnabjjbofhjaaDoor.Fes
open Go.RowKit Go.Proofs.YtjbnabjjbofhjaaDoorW.PrintWords

/-- An element of a row of scalars. -/
theorem at_sc {α : Type} {enc : α → Value} {h1 : ∀ x, (enc x).oneCell' = true} {w : World} {A : Option Addr} {xs : List α} (h : Kd.C (Kd.scalar enc h1) w A xs.length xs) (k : Nat) (hk : k < xs.length) : ∃ ad, A = some ad ∧ ∀ W, Ext w W → W.cell? (ad.add k) = some (enc xs[k]) := by
  obtain ⟨ad, e, hc⟩ := h.2.2 (by omega)
  obtain ⟨c, _, hK, hcell⟩ := hc k _ (List.getElem?_eq_getElem hk)
  obtain rfl : c = [enc xs[k]] := hK
  exact ⟨ad, e, stays (by have := hcell 0 _ rfl; simpa [Kd.scalar] using this)⟩
theorem at_int {q : IntKind} {w : World} {A : Option Addr} {xs : List Int} (h : Kd.C (Kd.int q) w A xs.length xs) (k : Nat) (hk : k < xs.length) : ∃ ad, A = some ad ∧ ∀ W, Ext w W → W.cell? (ad.add k) = some (.int q xs[k]) := at_sc h k hk
theorem at_bool {w : World} {A : Option Addr} {xs : List Bool} (h : Kd.C Kd.bool w A xs.length xs) (k : Nat) (hk : k < xs.length) : ∃ ad, A = some ad ∧ ∀ W, Ext w W → W.cell? (ad.add k) = some (.bool xs[k]) := at_sc h k hk
theorem at_row {α : Type} {d : Kd α} {w : World} {A : Option Addr} {xs : List α} (h : Kd.C d w A xs.length xs) (k : Nat) (hk : k < xs.length) : ∃ ad c, A = some ad ∧ c.length = d.sz ∧ d.K w xs[k] c ∧ ∀ j u, c[j]? = some u → w.cell? (ad.add (k * d.sz + j)) = some u := by
  obtain ⟨ad, e, hc⟩ := h.2.2 (by omega)
  obtain ⟨c, hs, hK, hcell⟩ := hc k _ (List.getElem?_eq_getElem hk)
  exact ⟨ad, c, e, hs, hK, hcell⟩
theorem at_slice {α : Type} {e : Nat} {d : Kd α} {w : World} {A : Option Addr} {xs : List (List α)} (h : Kd.C (Kd.slice e d) w A xs.length xs) (k : Nat) (hk : k < xs.length) : ∃ ad B c, A = some ad ∧ (∀ W, Ext w W → W.cell? (ad.add k) = some (.slice B (xs[k]).length c)) ∧ (xs[k]).length ≤ c ∧ Kd.C d w B (xs[k]).length xs[k] := by
  obtain ⟨ad, c, e, hs, ⟨B, q, rfl, hl, hC⟩, hcell⟩ := at_row h k hk
  exact ⟨ad, B, q, e, stays (by have := hcell 0 _ rfl; simpa [Kd.slice] using this), hl, hC⟩

def kTyp : Kd Typ := Kd.iso (Kd.pair (Kd.int .u8) (Kd.pair (Kd.int .i64) (Kd.pair (Kd.int .i64) (Kd.slice 3 (Kd.int .i64))))) (fun x : Typ => (x.kind, (x.elem, (x.many, x.parts))))
theorem kTyp_open {w : World} {x : Typ} {cs : List Value} (h : kTyp.K w x cs) : ∃ A3 c3, cs = [.int .u8 x.kind, .int .i64 x.elem, .int .i64 x.many, .slice A3 x.parts.length c3] ∧ x.parts.length ≤ c3 ∧ Kd.C (Kd.int .i64) w A3 x.parts.length x.parts := by
  obtain ⟨p1, q1, rfl, hk1, hr1⟩ := h
  cases hk1
  obtain ⟨p2, q2, rfl, hk2, hr2⟩ := hr1
  cases hk2
  obtain ⟨p3, q3, rfl, hk3, hr3⟩ := hr2
  cases hk3
  obtain ⟨A4, c4, rfl, l4, g4⟩ := hr3
  exact ⟨A4, c4, rfl, l4, g4⟩
theorem kTyp_mk (w : World) (x : Typ) {A3 : Option Addr} {c3 : Nat} (l3 : x.parts.length ≤ c3) (g3 : Kd.C (Kd.int .i64) w A3 x.parts.length x.parts) : kTyp.K w x [.int .u8 x.kind, .int .i64 x.elem, .int .i64 x.many, .slice A3 x.parts.length c3] := ⟨[.int .u8 x.kind], [.int .i64 x.elem, .int .i64 x.many, .slice A3 x.parts.length c3], rfl, rfl, ⟨[.int .i64 x.elem], [.int .i64 x.many, .slice A3 x.parts.length c3], rfl, rfl, ⟨[.int .i64 x.many], [.slice A3 x.parts.length c3], rfl, rfl, ⟨A3, c3, rfl, l3, g3⟩⟩⟩⟩
theorem kTyp_mkM (w : World) (base : Nat) (ok : Nat → Prop) (x : Typ) {u3 : Value} (g3 : Kd.R (Kd.int .i64) 3 w base ok u3 x.parts) : kTyp.M w base ok x [.int .u8 x.kind, .int .i64 x.elem, .int .i64 x.many, u3] := ⟨[.int .u8 x.kind], [.int .i64 x.elem, .int .i64 x.many, u3], rfl, rfl, ⟨[.int .i64 x.elem], [.int .i64 x.many, u3], rfl, rfl, ⟨[.int .i64 x.many], [u3], rfl, rfl, ⟨u3, rfl, g3⟩⟩⟩⟩
theorem at_Typ {w : World} {A : Option Addr} {xs : List Typ} (h : Kd.C kTyp w A xs.length xs) (k : Nat) (hk : k < xs.length) : ∃ ad A3 c3, A = some ad ∧ (∀ W, Ext w W → W.cell? (ad.add (k * 4)) = some (.int .u8 xs[k].kind)) ∧ (∀ W, Ext w W → W.cell? ⟨(ad.add (k * 4)).block, (ad.add (k * 4)).off + 1, none⟩ = some (.int .i64 xs[k].elem)) ∧ (∀ W, Ext w W → W.cell? ⟨(ad.add (k * 4)).block, (ad.add (k * 4)).off + 2, none⟩ = some (.int .i64 xs[k].many)) ∧ (∀ W, Ext w W → W.cell? ⟨(ad.add (k * 4)).block, (ad.add (k * 4)).off + 3, none⟩ = some (.slice A3 xs[k].parts.length c3)) ∧ xs[k].parts.length ≤ c3 ∧ Kd.C (Kd.int .i64) w A3 xs[k].parts.length xs[k].parts := by
  obtain ⟨ad, c, e, hs, hK, hc0⟩ := at_row h k hk
  have hc : ∀ j u, c[j]? = some u → w.cell? (ad.add (k * 4 + j)) = some u := hc0
  obtain ⟨A3, c3, rfl, f0, f1⟩ := kTyp_open hK
  exact ⟨ad, A3, c3, e, stays (hc 0 _ rfl), stays (by rw [← add_field _ _ 1 (by omega)]; exact hc 1 _ rfl), stays (by rw [← add_field _ _ 2 (by omega)]; exact hc 2 _ rfl), stays (by rw [← add_field _ _ 3 (by omega)]; exact hc 3 _ rfl), f0, f1⟩

def kIns : Kd Ins := Kd.iso (Kd.pair (Kd.int .u8) (Kd.pair (Kd.int .i64) (Kd.pair (Kd.int .i64) (Kd.pair (Kd.int .i64) (Kd.pair (Kd.int .i64) (Kd.pair (Kd.slice 3 (Kd.int .i64)) (Kd.slice 3 (Kd.int .i64)))))))) (fun x : Ins => (x.op, (x.typ, (x.a, (x.b, (x.n, (x.args, x.froms)))))))
theorem kIns_open {w : World} {x : Ins} {cs : List Value} (h : kIns.K w x cs) : ∃ A5 c5 A6 c6, cs = [.int .u8 x.op, .int .i64 x.typ, .int .i64 x.a, .int .i64 x.b, .int .i64 x.n, .slice A5 x.args.length c5, .slice A6 x.froms.length c6] ∧ x.args.length ≤ c5 ∧ Kd.C (Kd.int .i64) w A5 x.args.length x.args ∧ x.froms.length ≤ c6 ∧ Kd.C (Kd.int .i64) w A6 x.froms.length x.froms := by
  obtain ⟨p1, q1, rfl, hk1, hr1⟩ := h
  cases hk1
  obtain ⟨p2, q2, rfl, hk2, hr2⟩ := hr1
  cases hk2
  obtain ⟨p3, q3, rfl, hk3, hr3⟩ := hr2
  cases hk3
  obtain ⟨p4, q4, rfl, hk4, hr4⟩ := hr3
  cases hk4
  obtain ⟨p5, q5, rfl, hk5, hr5⟩ := hr4
  cases hk5
  obtain ⟨p6, q6, rfl, hk6, hr6⟩ := hr5
  obtain ⟨A7, c7, rfl, l7, g7⟩ := hk6
  obtain ⟨A8, c8, rfl, l8, g8⟩ := hr6
  exact ⟨A7, c7, A8, c8, rfl, l7, g7, l8, g8⟩
theorem kIns_mk (w : World) (x : Ins) {A5 : Option Addr} {c5 : Nat} (l5 : x.args.length ≤ c5) (g5 : Kd.C (Kd.int .i64) w A5 x.args.length x.args) {A6 : Option Addr} {c6 : Nat} (l6 : x.froms.length ≤ c6) (g6 : Kd.C (Kd.int .i64) w A6 x.froms.length x.froms) : kIns.K w x [.int .u8 x.op, .int .i64 x.typ, .int .i64 x.a, .int .i64 x.b, .int .i64 x.n, .slice A5 x.args.length c5, .slice A6 x.froms.length c6] := ⟨[.int .u8 x.op], [.int .i64 x.typ, .int .i64 x.a, .int .i64 x.b, .int .i64 x.n, .slice A5 x.args.length c5, .slice A6 x.froms.length c6], rfl, rfl, ⟨[.int .i64 x.typ], [.int .i64 x.a, .int .i64 x.b, .int .i64 x.n, .slice A5 x.args.length c5, .slice A6 x.froms.length c6], rfl, rfl, ⟨[.int .i64 x.a], [.int .i64 x.b, .int .i64 x.n, .slice A5 x.args.length c5, .slice A6 x.froms.length c6], rfl, rfl, ⟨[.int .i64 x.b], [.int .i64 x.n, .slice A5 x.args.length c5, .slice A6 x.froms.length c6], rfl, rfl, ⟨[.int .i64 x.n], [.slice A5 x.args.length c5, .slice A6 x.froms.length c6], rfl, rfl, ⟨[.slice A5 x.args.length c5], [.slice A6 x.froms.length c6], rfl, ⟨A5, c5, rfl, l5, g5⟩, ⟨A6, c6, rfl, l6, g6⟩⟩⟩⟩⟩⟩⟩
theorem kIns_mkM (w : World) (base : Nat) (ok : Nat → Prop) (x : Ins) {u5 : Value} (g5 : Kd.R (Kd.int .i64) 3 w base ok u5 x.args) {u6 : Value} (g6 : Kd.R (Kd.int .i64) 3 w base ok u6 x.froms) : kIns.M w base ok x [.int .u8 x.op, .int .i64 x.typ, .int .i64 x.a, .int .i64 x.b, .int .i64 x.n, u5, u6] := ⟨[.int .u8 x.op], [.int .i64 x.typ, .int .i64 x.a, .int .i64 x.b, .int .i64 x.n, u5, u6], rfl, rfl, ⟨[.int .i64 x.typ], [.int .i64 x.a, .int .i64 x.b, .int .i64 x.n, u5, u6], rfl, rfl, ⟨[.int .i64 x.a], [.int .i64 x.b, .int .i64 x.n, u5, u6], rfl, rfl, ⟨[.int .i64 x.b], [.int .i64 x.n, u5, u6], rfl, rfl, ⟨[.int .i64 x.n], [u5, u6], rfl, rfl, ⟨[u5], [u6], rfl, ⟨u5, rfl, g5⟩, ⟨u6, rfl, g6⟩⟩⟩⟩⟩⟩⟩
theorem at_Ins {w : World} {A : Option Addr} {xs : List Ins} (h : Kd.C kIns w A xs.length xs) (k : Nat) (hk : k < xs.length) : ∃ ad A5 c5 A6 c6, A = some ad ∧ (∀ W, Ext w W → W.cell? (ad.add (k * 7)) = some (.int .u8 xs[k].op)) ∧ (∀ W, Ext w W → W.cell? ⟨(ad.add (k * 7)).block, (ad.add (k * 7)).off + 1, none⟩ = some (.int .i64 xs[k].typ)) ∧ (∀ W, Ext w W → W.cell? ⟨(ad.add (k * 7)).block, (ad.add (k * 7)).off + 2, none⟩ = some (.int .i64 xs[k].a)) ∧ (∀ W, Ext w W → W.cell? ⟨(ad.add (k * 7)).block, (ad.add (k * 7)).off + 3, none⟩ = some (.int .i64 xs[k].b)) ∧ (∀ W, Ext w W → W.cell? ⟨(ad.add (k * 7)).block, (ad.add (k * 7)).off + 4, none⟩ = some (.int .i64 xs[k].n)) ∧ (∀ W, Ext w W → W.cell? ⟨(ad.add (k * 7)).block, (ad.add (k * 7)).off + 5, none⟩ = some (.slice A5 xs[k].args.length c5)) ∧ (∀ W, Ext w W → W.cell? ⟨(ad.add (k * 7)).block, (ad.add (k * 7)).off + 6, none⟩ = some (.slice A6 xs[k].froms.length c6)) ∧ xs[k].args.length ≤ c5 ∧ Kd.C (Kd.int .i64) w A5 xs[k].args.length xs[k].args ∧ xs[k].froms.length ≤ c6 ∧ Kd.C (Kd.int .i64) w A6 xs[k].froms.length xs[k].froms := by
  obtain ⟨ad, c, e, hs, hK, hc0⟩ := at_row h k hk
  have hc : ∀ j u, c[j]? = some u → w.cell? (ad.add (k * 7 + j)) = some u := hc0
  obtain ⟨A5, c5, A6, c6, rfl, f0, f1, f2, f3⟩ := kIns_open hK
  exact ⟨ad, A5, c5, A6, c6, e, stays (hc 0 _ rfl), stays (by rw [← add_field _ _ 1 (by omega)]; exact hc 1 _ rfl), stays (by rw [← add_field _ _ 2 (by omega)]; exact hc 2 _ rfl), stays (by rw [← add_field _ _ 3 (by omega)]; exact hc 3 _ rfl), stays (by rw [← add_field _ _ 4 (by omega)]; exact hc 4 _ rfl), stays (by rw [← add_field _ _ 5 (by omega)]; exact hc 5 _ rfl), stays (by rw [← add_field _ _ 6 (by omega)]; exact hc 6 _ rfl), f0, f1, f2, f3⟩

def kEn : Kd En := Kd.iso (Kd.pair (Kd.int .u8) (Kd.pair (Kd.int .i64) (Kd.pair (Kd.int .i64) (Kd.int .i64)))) (fun x : En => (x.kind, (x.a, (x.to, x.els))))
theorem kEn_open {w : World} {x : En} {cs : List Value} (h : kEn.K w x cs) : cs = [.int .u8 x.kind, .int .i64 x.a, .int .i64 x.to, .int .i64 x.els] := by
  obtain ⟨p1, q1, rfl, hk1, hr1⟩ := h
  cases hk1
  obtain ⟨p2, q2, rfl, hk2, hr2⟩ := hr1
  cases hk2
  obtain ⟨p3, q3, rfl, hk3, hr3⟩ := hr2
  cases hk3
  cases hr3
  rfl
theorem kEn_mk (w : World) (x : En) : kEn.K w x [.int .u8 x.kind, .int .i64 x.a, .int .i64 x.to, .int .i64 x.els] := ⟨[.int .u8 x.kind], [.int .i64 x.a, .int .i64 x.to, .int .i64 x.els], rfl, rfl, ⟨[.int .i64 x.a], [.int .i64 x.to, .int .i64 x.els], rfl, rfl, ⟨[.int .i64 x.to], [.int .i64 x.els], rfl, rfl, rfl⟩⟩⟩
theorem kEn_mkM (w : World) (base : Nat) (ok : Nat → Prop) (x : En) : kEn.M w base ok x [.int .u8 x.kind, .int .i64 x.a, .int .i64 x.to, .int .i64 x.els] := ⟨[.int .u8 x.kind], [.int .i64 x.a, .int .i64 x.to, .int .i64 x.els], rfl, rfl, ⟨[.int .i64 x.a], [.int .i64 x.to, .int .i64 x.els], rfl, rfl, ⟨[.int .i64 x.to], [.int .i64 x.els], rfl, rfl, rfl⟩⟩⟩
theorem at_En {w : World} {A : Option Addr} {xs : List En} (h : Kd.C kEn w A xs.length xs) (k : Nat) (hk : k < xs.length) : ∃ ad, A = some ad ∧ (∀ W, Ext w W → W.cell? (ad.add (k * 4)) = some (.int .u8 xs[k].kind)) ∧ (∀ W, Ext w W → W.cell? ⟨(ad.add (k * 4)).block, (ad.add (k * 4)).off + 1, none⟩ = some (.int .i64 xs[k].a)) ∧ (∀ W, Ext w W → W.cell? ⟨(ad.add (k * 4)).block, (ad.add (k * 4)).off + 2, none⟩ = some (.int .i64 xs[k].to)) ∧ (∀ W, Ext w W → W.cell? ⟨(ad.add (k * 4)).block, (ad.add (k * 4)).off + 3, none⟩ = some (.int .i64 xs[k].els)) := by
  obtain ⟨ad, c, e, hs, hK, hc0⟩ := at_row h k hk
  have hc : ∀ j u, c[j]? = some u → w.cell? (ad.add (k * 4 + j)) = some u := hc0
  obtain rfl := kEn_open hK
  exact ⟨ad, e, stays (hc 0 _ rfl), stays (by rw [← add_field _ _ 1 (by omega)]; exact hc 1 _ rfl), stays (by rw [← add_field _ _ 2 (by omega)]; exact hc 2 _ rfl), stays (by rw [← add_field _ _ 3 (by omega)]; exact hc 3 _ rfl)⟩

def kBlk : Kd Blk := Kd.iso (Kd.pair (Kd.slice 69 kIns) kEn) (fun x : Blk => (x.ins, x.en))
theorem kBlk_open {w : World} {x : Blk} {cs : List Value} (h : kBlk.K w x cs) : ∃ A0 c0, cs = [.slice A0 x.ins.length c0, .int .u8 x.en.kind, .int .i64 x.en.a, .int .i64 x.en.to, .int .i64 x.en.els] ∧ x.ins.length ≤ c0 ∧ Kd.C kIns w A0 x.ins.length x.ins := by
  obtain ⟨p1, q1, rfl, hk1, hr1⟩ := h
  obtain ⟨A2, c2, rfl, l2, g2⟩ := hk1
  obtain ⟨p3, q3, rfl, hk3, hr3⟩ := hr1
  cases hk3
  obtain ⟨p4, q4, rfl, hk4, hr4⟩ := hr3
  cases hk4
  obtain ⟨p5, q5, rfl, hk5, hr5⟩ := hr4
  cases hk5
  cases hr5
  exact ⟨A2, c2, rfl, l2, g2⟩
theorem kBlk_mk (w : World) (x : Blk) {A0 : Option Addr} {c0 : Nat} (l0 : x.ins.length ≤ c0) (g0 : Kd.C kIns w A0 x.ins.length x.ins) : kBlk.K w x [.slice A0 x.ins.length c0, .int .u8 x.en.kind, .int .i64 x.en.a, .int .i64 x.en.to, .int .i64 x.en.els] := ⟨[.slice A0 x.ins.length c0], [.int .u8 x.en.kind, .int .i64 x.en.a, .int .i64 x.en.to, .int .i64 x.en.els], rfl, ⟨A0, c0, rfl, l0, g0⟩, ⟨[.int .u8 x.en.kind], [.int .i64 x.en.a, .int .i64 x.en.to, .int .i64 x.en.els], rfl, rfl, ⟨[.int .i64 x.en.a], [.int .i64 x.en.to, .int .i64 x.en.els], rfl, rfl, ⟨[.int .i64 x.en.to], [.int .i64 x.en.els], rfl, rfl, rfl⟩⟩⟩⟩
theorem kBlk_mkM (w : World) (base : Nat) (ok : Nat → Prop) (x : Blk) {u0 : Value} (g0 : Kd.R kIns 69 w base ok u0 x.ins) : kBlk.M w base ok x [u0, .int .u8 x.en.kind, .int .i64 x.en.a, .int .i64 x.en.to, .int .i64 x.en.els] := ⟨[u0], [.int .u8 x.en.kind, .int .i64 x.en.a, .int .i64 x.en.to, .int .i64 x.en.els], rfl, ⟨u0, rfl, g0⟩, ⟨[.int .u8 x.en.kind], [.int .i64 x.en.a, .int .i64 x.en.to, .int .i64 x.en.els], rfl, rfl, ⟨[.int .i64 x.en.a], [.int .i64 x.en.to, .int .i64 x.en.els], rfl, rfl, ⟨[.int .i64 x.en.to], [.int .i64 x.en.els], rfl, rfl, rfl⟩⟩⟩⟩
theorem at_Blk {w : World} {A : Option Addr} {xs : List Blk} (h : Kd.C kBlk w A xs.length xs) (k : Nat) (hk : k < xs.length) : ∃ ad A0 c0, A = some ad ∧ (∀ W, Ext w W → W.cell? (ad.add (k * 5)) = some (.slice A0 xs[k].ins.length c0)) ∧ (∀ W, Ext w W → W.cell? ⟨(ad.add (k * 5)).block, (ad.add (k * 5)).off + 1, none⟩ = some (.int .u8 xs[k].en.kind)) ∧ (∀ W, Ext w W → W.cell? ⟨(ad.add (k * 5)).block, (ad.add (k * 5)).off + 2, none⟩ = some (.int .i64 xs[k].en.a)) ∧ (∀ W, Ext w W → W.cell? ⟨(ad.add (k * 5)).block, (ad.add (k * 5)).off + 3, none⟩ = some (.int .i64 xs[k].en.to)) ∧ (∀ W, Ext w W → W.cell? ⟨(ad.add (k * 5)).block, (ad.add (k * 5)).off + 4, none⟩ = some (.int .i64 xs[k].en.els)) ∧ xs[k].ins.length ≤ c0 ∧ Kd.C kIns w A0 xs[k].ins.length xs[k].ins := by
  obtain ⟨ad, c, e, hs, hK, hc0⟩ := at_row h k hk
  have hc : ∀ j u, c[j]? = some u → w.cell? (ad.add (k * 5 + j)) = some u := hc0
  obtain ⟨A0, c0, rfl, f0, f1⟩ := kBlk_open hK
  exact ⟨ad, A0, c0, e, stays (hc 0 _ rfl), stays (by rw [← add_field _ _ 1 (by omega)]; exact hc 1 _ rfl), stays (by rw [← add_field _ _ 2 (by omega)]; exact hc 2 _ rfl), stays (by rw [← add_field _ _ 3 (by omega)]; exact hc 3 _ rfl), stays (by rw [← add_field _ _ 4 (by omega)]; exact hc 4 _ rfl), f0, f1⟩

def kFc : Kd Fc := Kd.iso (Kd.pair (Kd.int .i64) (Kd.slice 48 kBlk)) (fun x : Fc => (x.sig, x.blocks))
theorem kFc_open {w : World} {x : Fc} {cs : List Value} (h : kFc.K w x cs) : ∃ A1 c1, cs = [.int .i64 x.sig, .slice A1 x.blocks.length c1] ∧ x.blocks.length ≤ c1 ∧ Kd.C kBlk w A1 x.blocks.length x.blocks := by
  obtain ⟨p1, q1, rfl, hk1, hr1⟩ := h
  cases hk1
  obtain ⟨A2, c2, rfl, l2, g2⟩ := hr1
  exact ⟨A2, c2, rfl, l2, g2⟩
theorem kFc_mk (w : World) (x : Fc) {A1 : Option Addr} {c1 : Nat} (l1 : x.blocks.length ≤ c1) (g1 : Kd.C kBlk w A1 x.blocks.length x.blocks) : kFc.K w x [.int .i64 x.sig, .slice A1 x.blocks.length c1] := ⟨[.int .i64 x.sig], [.slice A1 x.blocks.length c1], rfl, rfl, ⟨A1, c1, rfl, l1, g1⟩⟩
theorem kFc_mkM (w : World) (base : Nat) (ok : Nat → Prop) (x : Fc) {u1 : Value} (g1 : Kd.R kBlk 48 w base ok u1 x.blocks) : kFc.M w base ok x [.int .i64 x.sig, u1] := ⟨[.int .i64 x.sig], [u1], rfl, rfl, ⟨u1, rfl, g1⟩⟩
theorem at_Fc {w : World} {A : Option Addr} {xs : List Fc} (h : Kd.C kFc w A xs.length xs) (k : Nat) (hk : k < xs.length) : ∃ ad A1 c1, A = some ad ∧ (∀ W, Ext w W → W.cell? (ad.add (k * 2)) = some (.int .i64 xs[k].sig)) ∧ (∀ W, Ext w W → W.cell? ⟨(ad.add (k * 2)).block, (ad.add (k * 2)).off + 1, none⟩ = some (.slice A1 xs[k].blocks.length c1)) ∧ xs[k].blocks.length ≤ c1 ∧ Kd.C kBlk w A1 xs[k].blocks.length xs[k].blocks := by
  obtain ⟨ad, c, e, hs, hK, hc0⟩ := at_row h k hk
  have hc : ∀ j u, c[j]? = some u → w.cell? (ad.add (k * 2 + j)) = some u := hc0
  obtain ⟨A1, c1, rfl, f0, f1⟩ := kFc_open hK
  exact ⟨ad, A1, c1, e, stays (hc 0 _ rfl), stays (by rw [← add_field _ _ 1 (by omega)]; exact hc 1 _ rfl), f0, f1⟩

def kPrg : Kd Prg := Kd.iso (Kd.pair (Kd.slice 87 kTyp) (Kd.slice 51 kFc)) (fun x : Prg => (x.types, x.funcs))
theorem kPrg_open {w : World} {x : Prg} {cs : List Value} (h : kPrg.K w x cs) : ∃ A0 c0 A1 c1, cs = [.slice A0 x.types.length c0, .slice A1 x.funcs.length c1] ∧ x.types.length ≤ c0 ∧ Kd.C kTyp w A0 x.types.length x.types ∧ x.funcs.length ≤ c1 ∧ Kd.C kFc w A1 x.funcs.length x.funcs := by
  obtain ⟨p1, q1, rfl, hk1, hr1⟩ := h
  obtain ⟨A2, c2, rfl, l2, g2⟩ := hk1
  obtain ⟨A3, c3, rfl, l3, g3⟩ := hr1
  exact ⟨A2, c2, A3, c3, rfl, l2, g2, l3, g3⟩
theorem kPrg_mk (w : World) (x : Prg) {A0 : Option Addr} {c0 : Nat} (l0 : x.types.length ≤ c0) (g0 : Kd.C kTyp w A0 x.types.length x.types) {A1 : Option Addr} {c1 : Nat} (l1 : x.funcs.length ≤ c1) (g1 : Kd.C kFc w A1 x.funcs.length x.funcs) : kPrg.K w x [.slice A0 x.types.length c0, .slice A1 x.funcs.length c1] := ⟨[.slice A0 x.types.length c0], [.slice A1 x.funcs.length c1], rfl, ⟨A0, c0, rfl, l0, g0⟩, ⟨A1, c1, rfl, l1, g1⟩⟩
theorem kPrg_mkM (w : World) (base : Nat) (ok : Nat → Prop) (x : Prg) {u0 : Value} (g0 : Kd.R kTyp 87 w base ok u0 x.types) {u1 : Value} (g1 : Kd.R kFc 51 w base ok u1 x.funcs) : kPrg.M w base ok x [u0, u1] := ⟨[u0], [u1], rfl, ⟨u0, rfl, g0⟩, ⟨u1, rfl, g1⟩⟩
theorem at_Prg {w : World} {A : Option Addr} {xs : List Prg} (h : Kd.C kPrg w A xs.length xs) (k : Nat) (hk : k < xs.length) : ∃ ad A0 c0 A1 c1, A = some ad ∧ (∀ W, Ext w W → W.cell? (ad.add (k * 2)) = some (.slice A0 xs[k].types.length c0)) ∧ (∀ W, Ext w W → W.cell? ⟨(ad.add (k * 2)).block, (ad.add (k * 2)).off + 1, none⟩ = some (.slice A1 xs[k].funcs.length c1)) ∧ xs[k].types.length ≤ c0 ∧ Kd.C kTyp w A0 xs[k].types.length xs[k].types ∧ xs[k].funcs.length ≤ c1 ∧ Kd.C kFc w A1 xs[k].funcs.length xs[k].funcs := by
  obtain ⟨ad, c, e, hs, hK, hc0⟩ := at_row h k hk
  have hc : ∀ j u, c[j]? = some u → w.cell? (ad.add (k * 2 + j)) = some u := hc0
  obtain ⟨A0, c0, A1, c1, rfl, f0, f1, f2, f3⟩ := kPrg_open hK
  exact ⟨ad, A0, c0, A1, c1, e, stays (hc 0 _ rfl), stays (by rw [← add_field _ _ 1 (by omega)]; exact hc 1 _ rfl), f0, f1, f2, f3⟩

def kWd : Kd Wd := Kd.iso (Kd.pair (Kd.int .i64) (Kd.int .u64)) (fun x : Wd => (x.pos, x.bits))
theorem kWd_open {w : World} {x : Wd} {cs : List Value} (h : kWd.K w x cs) : cs = [.int .i64 x.pos, .int .u64 x.bits] := by
  obtain ⟨p1, q1, rfl, hk1, hr1⟩ := h
  cases hk1
  cases hr1
  rfl
theorem kWd_mk (w : World) (x : Wd) : kWd.K w x [.int .i64 x.pos, .int .u64 x.bits] := ⟨[.int .i64 x.pos], [.int .u64 x.bits], rfl, rfl, rfl⟩
theorem kWd_mkM (w : World) (base : Nat) (ok : Nat → Prop) (x : Wd) : kWd.M w base ok x [.int .i64 x.pos, .int .u64 x.bits] := ⟨[.int .i64 x.pos], [.int .u64 x.bits], rfl, rfl, rfl⟩
theorem at_Wd {w : World} {A : Option Addr} {xs : List Wd} (h : Kd.C kWd w A xs.length xs) (k : Nat) (hk : k < xs.length) : ∃ ad, A = some ad ∧ (∀ W, Ext w W → W.cell? (ad.add (k * 2)) = some (.int .i64 xs[k].pos)) ∧ (∀ W, Ext w W → W.cell? ⟨(ad.add (k * 2)).block, (ad.add (k * 2)).off + 1, none⟩ = some (.int .u64 xs[k].bits)) := by
  obtain ⟨ad, c, e, hs, hK, hc0⟩ := at_row h k hk
  have hc : ∀ j u, c[j]? = some u → w.cell? (ad.add (k * 2 + j)) = some u := hc0
  obtain rfl := kWd_open hK
  exact ⟨ad, e, stays (hc 0 _ rfl), stays (by rw [← add_field _ _ 1 (by omega)]; exact hc 1 _ rfl)⟩






end Go.Proofs.YtjbnabjjbofhjaaDoor.Fes
