/- Package shape: a function, a program. -/
import Derived.Test.YtjbnabjjbofhjaaDoorW06b
import Derived.Laws.EntriesVeiled
set_option linter.unusedVariables false
set_option linter.unusedSimpArgs false
namespace Go.Proofs.YtjbnabjjbofhjaaDoor.Fes
open Go.RowKit Go.Proofs.YtjbnabjjbofhjaaDoorW.PrintWords

theorem belB_iff {n m : Int} : belB n m = true ↔ 0 ≤ n ∧ n < m := by simp [belB]
theorem belB_not {n m : Int} : belB n m = false ↔ ¬ (0 ≤ n ∧ n < m) := by rw [← belB_iff, Bool.not_eq_true]

set_option maxRecDepth 100000 in
set_option maxHeartbeats 4000000 in
theorem fun_c (p : Prg) (f : Fc) (A0 A1 B1 : Option Addr) (c0 c1 d1 : Nat) (w : World) (hT : Tab w) (ht : p.types.length ≤ 20) (hfl : p.funcs.length ≤ 10) (hp : ∀ x ∈ p.types, x.parts.length ≤ 20)
    (hbl : f.blocks.length ≤ 20) (hm : manyN f.blocks ≤ 300) (hw : ∀ b ∈ f.blocks, ∀ x ∈ b.ins, 0 ≤ x.op ∧ x.op ≤ 255)
    (hA : Kd.C kTyp w A0 p.types.length p.types) (hB : Kd.C kBlk w B1 f.blocks.length f.blocks) :
    Calls Tryd.prog 118 #[vPrg p A0 c0 A1 c1, vFc f B1 d1] w fun e w' => e = .returned (.bool (funB p f)) ∧ Ext w w' := by
  have HT := Aside0.mk hT
  have HA := Aside0.mk hA
  have HB := Aside0.mk hB
  have HW := Aside0.mk hw
  have HP := Aside0.mk hp
  clear hT hA hB hw hp
  have hmf : ∀ (fn : Go.Fn) (first cap : Array Value) (w : World), (Instr.makeFunc fn first cap).run Tryd.prog w = .ok (.func fn first cap) w := fun _ _ _ _ => rfl
  unfold vPrg vFc
  go_enter Tryd.func118, Tryd.ntmps118
  go_upto_region 1 with (fail)
  (have e_w_W0 : Ext w ((w.alloc (.cells #[.slice A0 p.types.length c0, .slice A1 p.funcs.length c1] 25)).alloc (.cells #[.int .i64 f.sig, .slice B1 f.blocks.length d1] 51)) := (by repeat (first | assumption | exact Ext.refl _ | exact Ext.of_xt _ _ | apply Ext.alloc | apply Ext.drewN | apply Ext.drew)); have b_W0_0_0 := stays (w := (w.alloc (.cells #[.slice A0 p.types.length c0, .slice A1 p.funcs.length c1] 25)).alloc (.cells #[.int .i64 f.sig, .slice B1 f.blocks.length d1] 51)) (a := ⟨w.heap.size, 0, none⟩) (by first | (go_simp; rfl) | rfl); have b_W0_0_1 := stays (w := (w.alloc (.cells #[.slice A0 p.types.length c0, .slice A1 p.funcs.length c1] 25)).alloc (.cells #[.int .i64 f.sig, .slice B1 f.blocks.length d1] 51)) (a := ⟨w.heap.size, 1, none⟩) (by first | (go_simp; rfl) | rfl); have b_W0_1_0 := stays (w := (w.alloc (.cells #[.slice A0 p.types.length c0, .slice A1 p.funcs.length c1] 25)).alloc (.cells #[.int .i64 f.sig, .slice B1 f.blocks.length d1] 51)) (a := ⟨(w.heap.size + 1), 0, none⟩) (by first | (go_simp; rfl) | rfl); have b_W0_1_1 := stays (w := (w.alloc (.cells #[.slice A0 p.types.length c0, .slice A1 p.funcs.length c1] 25)).alloc (.cells #[.int .i64 f.sig, .slice B1 f.blocks.length d1] 51)) (a := ⟨(w.heap.size + 1), 1, none⟩) (by first | (go_simp; rfl) | rfl); generalize (w.alloc (.cells #[.slice A0 p.types.length c0, .slice A1 p.funcs.length c1] 25)).alloc (.cells #[.int .i64 f.sig, .slice B1 f.blocks.length d1] 51) = W0 at e_w_W0 b_W0_0_0 b_W0_0_1 b_W0_1_0 b_W0_1_1 ⊢)
  go_wp2_with fail
  refine (belB_c _ _ _).mono ?_
  rintro _ _ ⟨rfl, rfl⟩
  cases q0 : belB f.sig p.types.length with
  | false =>
    go_wp2
    (go_ret; refine ⟨ret_bool ?_, (by repeat (first | assumption | exact Ext.refl _ | exact Ext.of_xt _ _ | apply Ext.alloc | apply Ext.drewN | apply Ext.drew))⟩; first | (simp_all [funB, q0, beqI]; done) | (simp_all [funB, q0, beqI]; omega))
  | true =>
    obtain ⟨s0, s1⟩ := belB_iff.1 q0
    obtain ⟨k, hk⟩ := Int.eq_ofNat_of_zero_le s0
    have hkl : k < p.types.length := by omega
    obtain ⟨ad, A3, c3, rfl, a0, a1, a2, a3, l3, g3⟩ := at_Typ (e_w_W0.C HA.out) k hkl
    have hpl := HP.out _ (List.getElem_mem hkl)
    have hgd : (p.types.getD f.sig.toNat zTyp) = p.types[k] := by rw [hk]; simp [List.getD_eq_getElem?_getD, hkl]
    have hrg : regsN p f = (p.types[k]).parts.length + manyN f.blocks := by unfold regsN; rw [hgd]
    have hfb : funB p f = (belB f.sig p.types.length && decide ((p.types[k]).kind = 3) && belB ((f.blocks.length : Int) - 1) 16 && decide (manyN f.blocks ≤ 128) && f.blocks.all (fun b => blkB b p.types.length p.funcs.length (regsN p f) f.blocks.length)) := by unfold funB; rw [hgd]
    generalize p.types[k] = x at *
    replace hfb := Aside0.mk hfb
    replace hrg := Aside0.mk hrg
    clear hgd g3
    generalize f.sig = sg at *
    subst hk
    by_cases h3 : x.kind = 3
    case neg =>
      go_wp2
      go_ret
      exact ⟨ret_bool (by rw [hfb.out]; simp [h3]), (by repeat (first | assumption | exact Ext.refl _ | exact Ext.of_xt _ _ | apply Ext.alloc | apply Ext.drewN | apply Ext.drew))⟩
    case pos =>
      go_wp2_with fail
      refine (belB_c _ _ _).mono ?_
      rintro _ _ ⟨rfl, rfl⟩
      cases q1 : belB ((f.blocks.length : Int) - 1) 16 with
      | false =>
        go_wp2
        go_ret
        exact ⟨ret_bool (by rw [hfb.out]; simp [q1]), (by repeat (first | assumption | exact Ext.refl _ | exact Ext.of_xt _ _ | apply Ext.alloc | apply Ext.drewN | apply Ext.drew))⟩
      | true =>
        go_wp2_with fail
        refine (many_c k f.blocks B1 d1 _ (Ext.C (by repeat (first | assumption | exact Ext.refl _ | exact Ext.of_xt _ _ | apply Ext.alloc | apply Ext.drewN | apply Ext.drew)) HB.out) (by omega)).mono ?_
        (rintro _ w1 ⟨rfl, hx_⟩; have e_w_w1 : Ext w w1 := Ext.trans (by repeat (first | assumption | exact Ext.refl _ | exact Ext.of_xt _ _ | apply Ext.alloc | apply Ext.drewN | apply Ext.drew)) hx_; have e_W0_w1 : Ext W0 w1 := Ext.trans (by repeat (first | assumption | exact Ext.refl _ | exact Ext.of_xt _ _ | apply Ext.alloc | apply Ext.drewN | apply Ext.drew)) hx_; clear hx_)
        by_cases q2 : manyN f.blocks ≤ 128
        case neg =>
          go_wp2
          go_ret
          exact ⟨ret_bool (by rw [hfb.out]; simp [q2]), (by repeat (first | assumption | exact Ext.refl _ | exact Ext.of_xt _ _ | apply Ext.alloc | apply Ext.drewN | apply Ext.drew))⟩
        case pos =>
          go_upto_region 3 with (fail)
          have hwr : IntKind.i64.wrap ((x.parts.length : Int) + manyN f.blocks) = x.parts.length + manyN f.blocks := IntWalk.i64_in _ (by omega)
          go_region_held3 (fun W => Ext W0 W) (first | assumption | exact Ext.drew e_W0_w1 | exact Ext.alloc (by assumption) _ | (refine Ext.set (Ext.set (Ext.set (Ext.set (by assumption) ?_ _) ?_ _) ?_ _) ?_ _ <;> exact e_W0_w1.size)) ((go_at_call 78; refine (many_c k f.blocks B1 d1 _ (Ext.C (by repeat (first | assumption | exact Ext.refl _ | exact Ext.of_xt _ _ | apply Ext.alloc | apply Ext.drewN | apply Ext.drew)) HB.out) (by omega)).mono ?_; rintro _ w2 ⟨rfl, hx2⟩; have e_W0_w2 := Ext.trans (a := W0) (by assumption) hx2; try (have hb2 := hx2.blk (heap_new w1.drew _); have c0_ : w2.cell? ⟨w1.heap.size, 0, none⟩ = some (.int .i64 0) := blk_cell hb2 0; have c1_ : w2.cell? ⟨w1.heap.size, 1, none⟩ = some (.int .i64 0) := blk_cell hb2 1; have c2_ : w2.cell? ⟨w1.heap.size, 2, none⟩ = some (.int .i64 0) := blk_cell hb2 2; have c3_ : w2.cell? ⟨w1.heap.size, 3, none⟩ = some (.int .i64 0) := blk_cell hb2 3; have f0_ : w2.frozen? ⟨w1.heap.size, 0, none⟩ = false := blk_frozen hb2 0; have f1_ : w2.frozen? ⟨w1.heap.size, 1, none⟩ = false := blk_frozen hb2 1; have f2_ : w2.frozen? ⟨w1.heap.size, 2, none⟩ = false := blk_frozen hb2 2; have f3_ : w2.frozen? ⟨w1.heap.size, 3, none⟩ = false := blk_frozen hb2 3; have hb2 := Aside0.mk hb2)))
          focus (
            obtain ⟨g, hg⟩ : ∃ g, g = w2.heap.size := ⟨_, rfl⟩
            have e_w_w2 : Ext w w2 := e_w_W0.trans e_W0_w2
            have e_W3 : Ext W0 (w2.alloc (.cells #[.int .i64 p.types.length, .int .i64 p.funcs.length, .int .i64 ((x.parts.length : Int) + manyN f.blocks), .int .i64 f.blocks.length] 185)) := (by repeat (first | assumption | exact Ext.refl _ | exact Ext.of_xt _ _ | apply Ext.alloc | apply Ext.drewN | apply Ext.drew))
            have b0 : ∀ W, Ext (w2.alloc (.cells #[.int .i64 p.types.length, .int .i64 p.funcs.length, .int .i64 ((x.parts.length : Int) + manyN f.blocks), .int .i64 f.blocks.length] 185)) W → W.cell? ⟨g, 0, none⟩ = some (.int .i64 p.types.length) := stays (by rw [hg]; go_simp)
            have b1 : ∀ W, Ext (w2.alloc (.cells #[.int .i64 p.types.length, .int .i64 p.funcs.length, .int .i64 ((x.parts.length : Int) + manyN f.blocks), .int .i64 f.blocks.length] 185)) W → W.cell? ⟨g, 1, none⟩ = some (.int .i64 p.funcs.length) := stays (by rw [hg]; go_simp)
            have b2 : ∀ W, Ext (w2.alloc (.cells #[.int .i64 p.types.length, .int .i64 p.funcs.length, .int .i64 ((x.parts.length : Int) + manyN f.blocks), .int .i64 f.blocks.length] 185)) W → W.cell? ⟨g, 2, none⟩ = some (.int .i64 ((x.parts.length : Int) + manyN f.blocks)) := stays (by rw [hg]; go_simp)
            have b3 : ∀ W, Ext (w2.alloc (.cells #[.int .i64 p.types.length, .int .i64 p.funcs.length, .int .i64 ((x.parts.length : Int) + manyN f.blocks), .int .i64 f.blocks.length] 185)) W → W.cell? ⟨g, 3, none⟩ = some (.int .i64 f.blocks.length) := stays (by rw [hg]; go_simp)
            generalize w2.alloc (.cells #[.int .i64 p.types.length, .int .i64 p.funcs.length, .int .i64 ((x.parts.length : Int) + manyN f.blocks), .int .i64 f.blocks.length] 185) = W3 at e_W3 b0 b1 b2 b3 ⊢
            rw [← hg])
          rotate_left
          focus (
            obtain ⟨g, hg⟩ : ∃ g, g = w1.heap.size := ⟨_, rfl⟩
            have hb3 := blk_set (blk_set (blk_set (blk_set hb2.out 0 (.int .i64 p.types.length)) 1 (.int .i64 p.funcs.length)) 2 (.int .i64 ((x.parts.length : Int) + manyN f.blocks))) 3 (.int .i64 f.blocks.length)
            have e_W3 : Ext W0 ((((w2.setCell ⟨w1.heap.size, 0, none⟩ (.int .i64 p.types.length)).setCell ⟨w1.heap.size, 1, none⟩ (.int .i64 p.funcs.length)).setCell ⟨w1.heap.size, 2, none⟩ (.int .i64 ((x.parts.length : Int) + manyN f.blocks))).setCell ⟨w1.heap.size, 3, none⟩ (.int .i64 f.blocks.length)) := by refine Ext.set (Ext.set (Ext.set (Ext.set (by assumption) ?_ _) ?_ _) ?_ _) ?_ _ <;> exact e_W0_w1.size
            have b0 : ∀ W, Ext ((((w2.setCell ⟨w1.heap.size, 0, none⟩ (.int .i64 p.types.length)).setCell ⟨w1.heap.size, 1, none⟩ (.int .i64 p.funcs.length)).setCell ⟨w1.heap.size, 2, none⟩ (.int .i64 ((x.parts.length : Int) + manyN f.blocks))).setCell ⟨w1.heap.size, 3, none⟩ (.int .i64 f.blocks.length)) W → W.cell? ⟨g, 0, none⟩ = some (.int .i64 p.types.length) := stays (by rw [hg]; exact blk_cell hb3 0)
            have b1 : ∀ W, Ext ((((w2.setCell ⟨w1.heap.size, 0, none⟩ (.int .i64 p.types.length)).setCell ⟨w1.heap.size, 1, none⟩ (.int .i64 p.funcs.length)).setCell ⟨w1.heap.size, 2, none⟩ (.int .i64 ((x.parts.length : Int) + manyN f.blocks))).setCell ⟨w1.heap.size, 3, none⟩ (.int .i64 f.blocks.length)) W → W.cell? ⟨g, 1, none⟩ = some (.int .i64 p.funcs.length) := stays (by rw [hg]; exact blk_cell hb3 1)
            have b2 : ∀ W, Ext ((((w2.setCell ⟨w1.heap.size, 0, none⟩ (.int .i64 p.types.length)).setCell ⟨w1.heap.size, 1, none⟩ (.int .i64 p.funcs.length)).setCell ⟨w1.heap.size, 2, none⟩ (.int .i64 ((x.parts.length : Int) + manyN f.blocks))).setCell ⟨w1.heap.size, 3, none⟩ (.int .i64 f.blocks.length)) W → W.cell? ⟨g, 2, none⟩ = some (.int .i64 ((x.parts.length : Int) + manyN f.blocks)) := stays (by rw [hg]; exact blk_cell hb3 2)
            have b3 : ∀ W, Ext ((((w2.setCell ⟨w1.heap.size, 0, none⟩ (.int .i64 p.types.length)).setCell ⟨w1.heap.size, 1, none⟩ (.int .i64 p.funcs.length)).setCell ⟨w1.heap.size, 2, none⟩ (.int .i64 ((x.parts.length : Int) + manyN f.blocks))).setCell ⟨w1.heap.size, 3, none⟩ (.int .i64 f.blocks.length)) W → W.cell? ⟨g, 3, none⟩ = some (.int .i64 f.blocks.length) := stays (by rw [hg]; exact blk_cell hb3 3)
            clear hb3 c0_ c1_ c2_ c3_ f0_ f1_ f2_ f3_ hb2
            generalize (((w2.setCell ⟨w1.heap.size, 0, none⟩ (.int .i64 p.types.length)).setCell ⟨w1.heap.size, 1, none⟩ (.int .i64 p.funcs.length)).setCell ⟨w1.heap.size, 2, none⟩ (.int .i64 ((x.parts.length : Int) + manyN f.blocks))).setCell ⟨w1.heap.size, 3, none⟩ (.int .i64 f.blocks.length) = W3 at e_W3 b0 b1 b2 b3 ⊢
            rw [← hg])
          all_goals (
            clear hg
            have e_w_W3 : Ext w W3 := e_w_W0.trans e_W3
            go_upto_region 5 with (fail)
            (have e_w_W4 : Ext w (W3.alloc (.cells #[.func (.func 141) #[] #[.pointer (some ⟨g, 0, none⟩)]] 187)) := (by repeat (first | assumption | exact Ext.refl _ | exact Ext.of_xt _ _ | apply Ext.alloc | apply Ext.drewN | apply Ext.drew)); have e_W0_W4 : Ext W0 (W3.alloc (.cells #[.func (.func 141) #[] #[.pointer (some ⟨g, 0, none⟩)]] 187)) := (by repeat (first | assumption | exact Ext.refl _ | exact Ext.of_xt _ _ | apply Ext.alloc | apply Ext.drewN | apply Ext.drew)); have e_W3_W4 : Ext W3 (W3.alloc (.cells #[.func (.func 141) #[] #[.pointer (some ⟨g, 0, none⟩)]] 187)) := (by repeat (first | assumption | exact Ext.refl _ | exact Ext.of_xt _ _ | apply Ext.alloc | apply Ext.drewN | apply Ext.drew)); have b_W4_0_0 := stays (w := W3.alloc (.cells #[.func (.func 141) #[] #[.pointer (some ⟨g, 0, none⟩)]] 187)) (a := ⟨W3.heap.size, 0, none⟩) (by first | (go_simp; rfl) | rfl); generalize W3.alloc (.cells #[.func (.func 141) #[] #[.pointer (some ⟨g, 0, none⟩)]] 187) = W4 at e_w_W4 e_W0_W4 e_W3_W4 b_W4_0_0 ⊢)
            go_wp2_with fail
            refine (hasBl_c 144 _ (enters_of Tryd.func144 (by kernel_rfl) rfl) (fun b => !blkB b p.types.length p.funcs.length (regsN p f) f.blocks.length) B1 d1 f.blocks _ (Ext.C (by repeat (first | assumption | exact Ext.refl _ | exact Ext.of_xt _ _ | apply Ext.alloc | apply Ext.drewN | apply Ext.drew)) HB.out) ?_).mono ?_
            · intro W b cs hb hW hK
              obtain ⟨A0', c0', rfl, l0', g0'⟩ := kBlk_open hK
              have h4 : Ext W4 W := Ext.trans (by repeat (first | assumption | exact Ext.refl _ | exact Ext.of_xt _ _ | apply Ext.alloc | apply Ext.drewN | apply Ext.drew)) hW
              have h3 : Ext W3 W := e_W3_W4.trans h4
              rw [hrg.out]
              exact blkNot_c b A0' c0' _ _ _ _ g W3.heap.size W (HT.out.ext (e_w_W3.trans h3)) (HW.out b hb) g0' (fun W' h' => b0 W' (h3.trans h')) (fun W' h' => b1 W' (h3.trans h')) (fun W' h' => b2 W' (h3.trans h')) (fun W' h' => b3 W' (h3.trans h')) (fun W' h' => b_W4_0_0 W' (h4.trans h'))
            · (rintro _ w5 ⟨rfl, hx_⟩; have e_w_w5 : Ext w w5 := Ext.trans (by repeat (first | assumption | exact Ext.refl _ | exact Ext.of_xt _ _ | apply Ext.alloc | apply Ext.drewN | apply Ext.drew)) hx_; clear hx_)
              go_wp2
              go_ret
              refine ⟨ret_bool ?_, (by repeat (first | assumption | exact Ext.refl _ | exact Ext.of_xt _ _ | apply Ext.alloc | apply Ext.drewN | apply Ext.drew))⟩
              rw [hfb.out, ← List.not_all_eq_any_not]
              simp [h3, q0, q1, q2])
end Go.Proofs.YtjbnabjjbofhjaaDoor.Fes
