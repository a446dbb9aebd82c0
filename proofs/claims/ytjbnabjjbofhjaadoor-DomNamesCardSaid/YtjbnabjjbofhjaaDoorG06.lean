/- How great a program is: one that is not is small. -/
import Derived.Test.YtjbnabjjbofhjaaDoorW06d
import Derived.Test.YtjbnabjjbofhjaaDoorR03c
set_option linter.unusedVariables false
set_option linter.unusedSimpArgs false
namespace Go.Proofs.YtjbnabjjbofhjaaDoor.Fes
open Go.RowKit Go.Proofs.YtjbnabjjbofhjaaDoorW.PrintWords

def smI (x : Ins) : Prop := x.args.length ≤ 20 ∧ x.froms.length ≤ 20
def smB (b : Blk) : Prop := ∀ x ∈ b.ins, smI x
def smF (f : Fc) : Prop := f.blocks.length ≤ 20 ∧ ∀ b ∈ f.blocks, smB b
def totN : List Fc → Nat
  | [] => 0
  | f :: l => manyN f.blocks + totN l
theorem totN_snoc (l : List Fc) (f : Fc) : totN (l ++ [f]) = totN l + manyN f.blocks := by
  induction l with
  | nil => simp [totN]
  | cons c l ih => simp only [List.cons_append, totN, ih]; omega
theorem le_totN (l : List Fc) : ∀ f ∈ l, manyN f.blocks ≤ totN l := by
  induction l with
  | nil => intro f h; simp at h
  | cons c l ih =>
    intro f h
    simp only [totN]
    rcases List.mem_cons.1 h with rfl | h
    · omega
    · have := ih f h; omega
theorem all_snoc_ {α : Type} {P : α → Prop} {l : List α} {k : Nat} (hk : k < l.length) (h : ∀ x ∈ l.take k, P x) (hx : P l[k]) : ∀ x ∈ l.take (k + 1), P x := by
  intro x hm
  rw [take_snoc l k hk, List.mem_append] at hm
  rcases hm with hm | hm
  · exact h x hm
  · obtain rfl : x = l[k] := by simpa using hm
    exact hx
def GrPost (p : Prg) (w : World) (e : Ending) (w' : World) : Prop := ∃ b : Bool, e = .returned (.bool b) ∧ (b = false → SmP p) ∧ Ext w w'
theorem GrPost.yes {p : Prg} {w w' : World} (h : Ext w w') : GrPost p w (.returned (.bool true)) w' := ⟨true, rfl, (fun e => by cases e), h⟩
theorem GrPost.no {p : Prg} {w w' : World} (h : Ext w w') (hs : SmP p) : GrPost p w (.returned (.bool false)) w' := ⟨false, rfl, fun _ => hs, h⟩

set_option maxRecDepth 100000 in
set_option maxHeartbeats 4000000 in
theorem great_c (p : Prg) (m : Int) (A0 A1 : Option Addr) (c0 c1 : Nat) (w : World) (hm0 : 0 ≤ m) (hm : m ≤ 300) (hz : ∀ f ∈ p.funcs, ∀ b ∈ f.blocks, b.ins.length ≤ 140737488351232) (hp : AtP w p A0 A1) :
    Calls Tryd.prog 17 #[vPrg p A0 c0 A1 c1, .int .i64 m] w (GrPost p w) := by
  have HP := Aside0.mk hp
  have HZ := Aside0.mk hz
  clear hp hz
  unfold vPrg
  go_enter Tryd.func17, Tryd.ntmps17
  go_upto_region 1 with (fail)
  (have e_w_W0 : Ext w (w.alloc (.cells #[.slice A0 p.types.length c0, .slice A1 p.funcs.length c1] 25)) := (by repeat (first | assumption | exact Ext.refl _ | exact Ext.of_xt _ _ | apply Ext.alloc | apply Ext.drewN | apply Ext.drew)); have b_W0_0_0 := stays (w := w.alloc (.cells #[.slice A0 p.types.length c0, .slice A1 p.funcs.length c1] 25)) (a := ⟨w.heap.size, 0, none⟩) (by first | (go_simp; rfl) | rfl); have b_W0_0_1 := stays (w := w.alloc (.cells #[.slice A0 p.types.length c0, .slice A1 p.funcs.length c1] 25)) (a := ⟨w.heap.size, 1, none⟩) (by first | (go_simp; rfl) | rfl); generalize w.alloc (.cells #[.slice A0 p.types.length c0, .slice A1 p.funcs.length c1] 25) = W0 at e_w_W0 b_W0_0_0 b_W0_0_1 ⊢)
  go_wp2_with fail
  refine (greatT_c p.types A0 c0 _ (e_w_W0.C HP.out.ct)).mono ?_
  rintro _ _ ⟨rfl, rfl⟩
  cases hg : greatT p.types with
  | true =>
    go_wp2
    go_ret
    exact GrPost.yes (by repeat (first | assumption | exact Ext.refl _ | exact Ext.of_xt _ _ | apply Ext.alloc | apply Ext.drewN | apply Ext.drew))
  | false =>
    have HG := Aside0.mk (greatT_small hg)
    clear hg
    by_cases h10 : p.funcs.length ≤ 10
    case neg =>
      go_wp2
      go_ret
      exact GrPost.yes (by repeat (first | assumption | exact Ext.refl _ | exact Ext.of_xt _ _ | apply Ext.alloc | apply Ext.drewN | apply Ext.drew))
    case pos =>
      go_wp2
      go_loop [5, 6] (fun s i => ∃ k nn : Nat, k ≤ p.funcs.length ∧ i = .int .i64 k ∧ s = .int .i64 nn ∧ Aside0 (nn = totN (p.funcs.take k)) ∧ (nn : Int) ≤ m ∧ Aside0 (∀ f ∈ p.funcs.take k, smF f)) (fun _ i => p.funcs.length - (intOf i).toNat)
      case atStart => exact ⟨0, 0, by omega, rfl, rfl, ⟨rfl⟩, by omega, ⟨by simp⟩⟩
      case round =>
        obtain ⟨k, nn, hk, rfl, rfl, hnn, hnm, hsm⟩ := hrel
        by_cases hlt : k < p.funcs.length
        case neg =>
          obtain rfl : k = p.funcs.length := by omega
          have hS : SmP p := by
            have h1 := hnn.out
            have h2 := hsm.out
            rw [List.take_length] at h1 h2
            exact ⟨HG.out.1, HG.out.2, h10, fun f hf => (h2 f hf).1, fun f hf => by have := le_totN p.funcs f hf; omega, fun f hf b hb x hx => (h2 f hf).2 b hb x hx⟩
          replace hS := Aside0.mk hS
          clear hnn hsm
          go_wp2
          go_ret
          exact GrPost.no (by repeat (first | assumption | exact Ext.refl _ | exact Ext.of_xt _ _ | apply Ext.alloc | apply Ext.drewN | apply Ext.drew)) hS.out
        case pos =>
          obtain ⟨fd, C1, e1, rfl, x0, x1, lx, gx⟩ := at_Fc (e_w_W0.C HP.out.cf) k hlt
          have HT := Aside0.mk (show totN (p.funcs.take (k + 1)) = totN (p.funcs.take k) + manyN (p.funcs[k]).blocks by rw [take_snoc _ _ hlt, totN_snoc])
          have HSN := Aside0.mk (fun h => all_snoc_ (P := smF) hlt hsm.out h)
          have GX := Aside0.mk gx
          have HZF := Aside0.mk (HZ.out _ (List.getElem_mem hlt))
          have hbl : (p.funcs[k]).blocks.length ≤ 9223372036854775807 := gx.2.1
          clear lx gx
          generalize p.funcs[k] = fn at *
          by_cases h20 : fn.blocks.length ≤ 20
          case neg =>
            go_wp2
            go_ret
            exact GrPost.yes (by repeat (first | assumption | exact Ext.refl _ | exact Ext.of_xt _ _ | apply Ext.alloc | apply Ext.drewN | apply Ext.drew))
          case pos =>
            go_wp2
            go_loop [5, 7] (fun s i => ∃ q mm : Nat, q ≤ fn.blocks.length ∧ i = .int .i64 q ∧ s = .int .i64 mm ∧ Aside0 (mm = nn + manyN (fn.blocks.take q)) ∧ (mm : Int) ≤ m ∧ Aside0 (∀ b ∈ fn.blocks.take q, smB b)) (fun _ i => fn.blocks.length - (intOf i).toNat)
            case atStart => exact ⟨0, nn, by omega, rfl, rfl, ⟨by simp [manyN]⟩, hnm, ⟨by simp⟩⟩
            case round =>
              obtain ⟨q, mm, hq, rfl, rfl, hmm, hmm2, hsb⟩ := hrel
              by_cases hql : q < fn.blocks.length
              case neg =>
                obtain rfl : q = fn.blocks.length := by omega
                go_wp2
                go_round
                case rel =>
                  have h1 := hmm.out
                  have h2 := hsb.out
                  rw [List.take_length] at h1 h2
                  exact ⟨k + 1, mm, by omega, by go_num, rfl, ⟨by rw [HT.out, h1, hnn.out]⟩, hmm2, ⟨HSN.out ⟨h20, h2⟩⟩⟩
                case measure => simp [intOf]; omega
              case pos =>
                obtain ⟨bd, D0, d0, rfl, y0, y1, y2, y3, y4, ly, gy⟩ := at_Blk GX.out q hql
                have HT2 := Aside0.mk (show manyN (fn.blocks.take (q + 1)) = manyN (fn.blocks.take q) + (fn.blocks[q]).ins.length by rw [take_snoc _ _ hql, manyN_snoc])
                have HSN2 := Aside0.mk (fun h => all_snoc_ (P := smB) hql hsb.out h)
                have GY := Aside0.mk gy
                have hil := HZF.out _ (List.getElem_mem hql)
                clear ly gy
                generalize fn.blocks[q] = b at *
                by_cases hgm : (mm : Int) + b.ins.length ≤ m
                case neg =>
                  have hgm2 : m < (mm : Int) + b.ins.length := by omega
                  go_wp2
                  go_ret
                  exact GrPost.yes (by repeat (first | assumption | exact Ext.refl _ | exact Ext.of_xt _ _ | apply Ext.alloc | apply Ext.drewN | apply Ext.drew))
                case pos =>
                  go_wp2
                  go_loop [9] (fun i => ∃ r : Nat, r ≤ b.ins.length ∧ i = .int .i64 r ∧ Aside0 (∀ x ∈ b.ins.take r, smI x)) (fun i => b.ins.length - (intOf i).toNat)
                  case atStart => exact ⟨0, by omega, rfl, ⟨by simp⟩⟩
                  case round =>
                    obtain ⟨r, hr, rfl, hsi⟩ := hrel
                    by_cases hrl : r < b.ins.length
                    case neg =>
                      obtain rfl : r = b.ins.length := by omega
                      go_wp2
                      go_round
                      case rel =>
                        have h2 := hsi.out
                        rw [List.take_length] at h2
                        exact ⟨q + 1, mm + b.ins.length, by omega, by go_num, by go_num, ⟨by rw [HT2.out, hmm.out]; omega⟩, by omega, ⟨HSN2.out h2⟩⟩
                      case measure => simp [intOf]; omega
                    case pos =>
                      obtain ⟨ad, A5, c5, A6, c6, rfl, z0, z1, z2, z3, z4, z5, z6, l5, g5, l6, g6⟩ := at_Ins GY.out r hrl
                      have HSN3 := Aside0.mk (fun h => all_snoc_ (P := smI) hrl hsi.out h)
                      have ha5 : (b.ins[r]).args.length ≤ 9223372036854775807 := g5.2.1
                      have ha6 : (b.ins[r]).froms.length ≤ 9223372036854775807 := g6.2.1
                      clear g5 g6
                      generalize b.ins[r] = x at *
                      by_cases ha : x.args.length ≤ 20
                      case neg =>
                        go_wp2
                        go_ret
                        exact GrPost.yes (by repeat (first | assumption | exact Ext.refl _ | exact Ext.of_xt _ _ | apply Ext.alloc | apply Ext.drewN | apply Ext.drew))
                      case pos =>
                        by_cases hf : x.froms.length ≤ 20
                        case neg =>
                          go_wp2
                          go_ret
                          exact GrPost.yes (by repeat (first | assumption | exact Ext.refl _ | exact Ext.of_xt _ _ | apply Ext.alloc | apply Ext.drewN | apply Ext.drew))
                        case pos =>
                          go_wp2
                          go_round
                          case rel => exact ⟨r + 1, by omega, by go_num, ⟨HSN3.out ⟨ha, hf⟩⟩⟩
                          case measure => simp [intOf]; omega
end Go.Proofs.YtjbnabjjbofhjaaDoor.Fes
