/- Package dom: the blocks that go to each block. -/
import Derived.Test.YtjbnabjjbofhjaaDoorFl3
import Derived.Deep.RegionHeld3
import Derived.Deep.RegionLaw
import Derived.Deep.MidRow
set_option linter.unusedVariables false
set_option linter.unusedSimpArgs false
namespace Go.Proofs.YtjbnabjjbofhjaaDoor.Fes
open Go.RowKit Go.Proofs.YtjbnabjjbofhjaaDoorW.PrintWords

section
variable {P : Program} {ops : Array Oper} {rest : List Oper} {o : Oper} {a : Act} {Q : Exit → Act → World → Prop} {Kc : Act → World → Prop} {w W : World}
/-- append(v, x) within a region that draws its order. -/
theorem step_int {s x : Operand} {v : Value} {xs : List Int} {y : Int} (hw : Region.wanted o (yielded ops a.tmps) = true) (ho : o.op = .call { callee := .builtin .append, args := #[s, x], argTypes := #[28, 28] })
    (hs : a.eval s = v) (hx : a.eval x = .slice (some ⟨W.heap.size, 0, none⟩) 1 1) (HO : OwnI w W v xs) (hW : Ext w W) (hl : xs.length ≤ 1000000000)
    (h : ∀ v1 w1, OwnI w w1 v1 (xs ++ [y]) → Ext w w1 → W.grownBy w1 v.ownBlock → (v1.ownBlock = v.ownBlock ∨ ∃ b, v1.ownBlock = some b ∧ W.heap.size ≤ b) → Kc (a.put o.dst v1) w1) :
    if Region.wanted o (yielded ops a.tmps) = true then Oper.wp Tryd.prog o a (W.alloc (.cells #[.int .i64 y] 3)) Kc Q else Kc (a.put o.dst undef) (W.alloc (.cells #[.int .i64 y] 3)) :=
  Kd.R_append_step (Kd.int .i64) (w0 := w) w.heap.size hw s x 28 3 (.int .i64 0) 8 ho Tryd.underlying28 infoInt rfl (by decide) (by omega) v xs y [.int .i64 y] (fun _ => True) (fun _ => False) hs hx rfl (fun _ hk => hk.elim) (fun _ _ => trivial)
    HO hW.b hW.size (by omega) (fun v1 w1 h1 h2 h3 h4 => h v1 w1 h1 ⟨h2⟩ h3 h4)
end
theorem OwnI.other {w W w1 : World} {v : Value} {xs : List Int} (h : OwnI w W v xs) {row : Option Nat} (hg : W.grownBy w1 row) (hne : v.ownBlock = none ∨ v.ownBlock ≠ row) : OwnI w w1 v xs :=
  Kd.R_of_own (own_other (Kd.own_of_R h) hg hne) (fun _ _ => trivial)
theorem OwnI.lt {w W : World} {v : Value} {xs : List Int} (h : OwnI w W v xs) : ∀ b, v.ownBlock = some b → b < W.heap.size := fun b hb => own_lt (Kd.own_of_R h) b hb

/-- The blocks ahead of each block: sixteen rows, their memory apart. -/
structure AhB (w W : World) (g : Nat) (vs : List Value) (rows : Nat → List Int) : Prop where
  ln : vs.length = 16
  hg : w.heap.size ≤ g
  blk : W.heap[g]? = some (.cells vs.toArray 151 (0, 0))
  own : ∀ (i : Nat) (v : Value), vs[i]? = some v → OwnI w W v (rows i)
  sep : ∀ (i j : Nat) (v u : Value), vs[i]? = some v → vs[j]? = some u → i ≠ j → v.ownBlock = none ∨ v.ownBlock ≠ u.ownBlock
  ext : Ext w W
section
variable {w W W1 w1 : World} {g : Nat} {vs : List Value} {rows : Nat → List Int}
theorem AhB.mve (h : AhB w W g vs rows) (he : Ext W W1) : AhB w W1 g vs rows := ⟨h.ln, h.hg, he.blk h.blk, fun i v hv => (h.own i v hv).ext he, h.sep, h.ext.trans he⟩
theorem AhB.put (h : AhB w W g vs rows) {c : Nat} {v v1 : Value} {y : Int} (hv : vs[c]? = some v) (h1 : OwnI w w1 v1 (rows c ++ [y])) (hx : Ext w w1) (hg : W.grownBy w1 v.ownBlock) (hl : v1.ownBlock = v.ownBlock ∨ ∃ b, v1.ownBlock = some b ∧ W.heap.size ≤ b) :
    AhB w (w1.setCell ⟨g, c, none⟩ v1) g (vs.set c v1) (fun i => if i = c then rows i ++ [y] else rows i) := by
  have hc := (List.getElem?_eq_some_iff.1 hv).1
  have hgv : v.ownBlock ≠ some g := fun e => Kd.R_ne (h.own c v hv) h.blk (by decide) e.symm
  have hb1 : w1.heap[g]? = some (.cells vs.toArray 151 (0, 0)) := by rw [hg.block g (blk_lt h.blk) (fun e => hgv e.symm)]; exact h.blk
  have key : ∀ (i : Nat) (u : Value), (vs.set c v1)[i]? = some u → (i = c ∧ u = v1) ∨ (i ≠ c ∧ vs[i]? = some u) := by
    intro i u hu
    rw [List.getElem?_set] at hu
    by_cases e : c = i
    · subst e
      rw [if_pos rfl, if_pos hc] at hu
      exact .inl ⟨rfl, (Option.some.inj hu).symm⟩
    · rw [if_neg e] at hu
      exact .inr ⟨fun e' => e e'.symm, hu⟩
  have hnew : ∀ (j : Nat) (u : Value), j ≠ c → vs[j]? = some u → (v1.ownBlock = none ∨ v1.ownBlock ≠ u.ownBlock) ∧ (u.ownBlock = none ∨ u.ownBlock ≠ v1.ownBlock) := by
    intro j u hj hu
    rcases hl with e | ⟨b, e, hb⟩
    · rw [e]
      exact ⟨h.sep c j v u hv hu (fun e => hj e.symm), h.sep j c u v hu hv hj⟩
    · rw [e]
      have hlt := (h.own j u hu).lt
      refine ⟨.inr fun e2 => ?_, .inr fun e2 => ?_⟩
      · have := hlt b e2.symm; omega
      · have := hlt b e2; omega
  refine ⟨by rw [List.length_set]; exact h.ln, h.hg, ?_, fun i u hu => ?_, fun i j x y hx hy hij => ?_, Ext.set hx h.hg v1⟩
  · have := blk_set hb1 c v1
    rwa [List.setIfInBounds_toArray] at this
  · rcases key i u hu with ⟨rfl, rfl⟩ | ⟨hne, hu⟩
    · rw [if_pos rfl]
      exact OwnS.set (OwnS.int h1) hb1 (by decide) i u
    · rw [if_neg hne]
      have h2 := (h.own i u hu).other hg (h.sep i c u v hu hv hne)
      exact OwnS.set (OwnS.int h2) hb1 (by decide) c v1
  · rcases key i x hx with ⟨rfl, rfl⟩ | ⟨hi, hx⟩
    · rcases key j y hy with ⟨rfl, rfl⟩ | ⟨hj, hy⟩
      · exact absurd rfl hij
      · exact (hnew j y hj hy).1
    · rcases key j y hy with ⟨hjc, hyv⟩ | ⟨hj, hy⟩
      · rw [hyv]
        exact (hnew i x hi hx).2
      · exact h.sep i j x y hx hy hij
end
/-- ends are of the three kinds -/
def KindOk (bs : List Blk) : Prop := ∀ b ∈ bs, b.en.kind = 1 ∨ b.en.kind = 2 ∨ b.en.kind = 3
/-- the rows, as far as block k -/
def rowsK (bs : List Blk) (k : Nat) : Nat → List Int := fun i => prL bs (i : Int) k
theorem rowsK_none {bs : List Blk} {k : Nat} {x : Blk} (hx : bs.getD k zBlk = x) (h : toE x.en = []) : rowsK bs (k + 1) = rowsK bs k := by
  funext i
  exact prL_no (by unfold isPred; rw [hx, h]; rfl)
theorem rowsK_one {bs : List Blk} {k c : Nat} {x : Blk} (hx : bs.getD k zBlk = x) (h : toE x.en = [(c : Int)]) : rowsK bs (k + 1) = fun i => if i = c then rowsK bs k i ++ [(k : Int)] else rowsK bs k i := by
  funext i
  unfold rowsK
  by_cases e : i = c
  · subst e
    rw [if_pos rfl]
    exact prL_yes (by unfold isPred; rw [hx, h]; simp)
  · rw [if_neg e]
    exact prL_no (by unfold isPred; rw [hx, h]; simp; omega)
theorem rowsK_two {bs : List Blk} {k c d : Nat} {x : Blk} (hx : bs.getD k zBlk = x) (h : toE x.en = [(c : Int), (d : Int)]) (hcd : c ≠ d) :
    rowsK bs (k + 1) = fun i => if i = d then (fun i => if i = c then rowsK bs k i ++ [(k : Int)] else rowsK bs k i) i ++ [(k : Int)] else (fun i => if i = c then rowsK bs k i ++ [(k : Int)] else rowsK bs k i) i := by
  funext i
  unfold rowsK
  by_cases e : i = d
  · subst e
    rw [if_pos rfl]
    have hic : i ≠ c := fun e => hcd e.symm
    simp only [if_neg hic]
    exact prL_yes (by unfold isPred; rw [hx, h]; simp)
  · rw [if_neg e]
    by_cases e2 : i = c
    · subst e2
      simp only [if_pos]
      exact prL_yes (by unfold isPred; rw [hx, h]; simp)
    · simp only [if_neg e2]
      exact prL_no (by unfold isPred; rw [hx, h]; simp; omega)

section
variable {W : World} {g t : Nat} {vs : List Value} {fr : Nat × Nat}
theorem rangeAt_row (h : W.heap[g]? = some (.cells vs.toArray t fr)) : W.rangeAt g 0 vs := fun j v hv => by
  rw [Nat.zero_add, cell_of_row W g j vs.toArray t fr h]
  simpa using hv
theorem there_row (h : W.heap[g]? = some (.cells vs.toArray t (0, 0))) : W.there g 0 vs.length := fun j hj => by
  rw [Nat.zero_add, blk_cell h j]
  exact ⟨by simp [hj], blk_frozen h j⟩
theorem setCell_same {cs : Array Value} {i : Nat} {v : Value} (h : W.heap[g]? = some (.cells cs t fr)) (hv : cs[i]? = some v) : W.setCell ⟨g, i, none⟩ v = W := by
  cases W
  simp only [World.setCell] at *
  congr 1
  apply Array.ext_getElem?
  intro j
  rw [Array.getElem?_modify]
  split
  · rename_i e
    subst e
    rw [h]
    simp only [Option.map_some]
    congr 2
    apply Array.ext_getElem?
    intro q
    show (cs.setIfInBounds i v)[q]? = cs[q]?
    rw [Array.getElem?_setIfInBounds]
    split
    · rename_i e2
      subst e2
      split
      · exact hv.symm
      · rename_i h2
        rw [Array.getElem?_eq_none (by omega)] at hv
        cases hv
    · rfl
  · rfl
theorem setCells_same {cs : Array Value} (h : W.heap[g]? = some (.cells cs t fr)) : ∀ (us : List Value) (o : Nat), (∀ j v, us[j]? = some v → cs[o + j]? = some v) → W.setCells g o us = W
  | [], _, _ => rfl
  | u :: us, o, hu => by
    rw [World.setCells, setCell_same h (by simpa using hu 0 u rfl)]
    exact setCells_same h us (o + 1) (fun j v hj => by have := hu (j + 1) v (by simpa using hj); rwa [show o + 1 + j = o + (j + 1) by omega])
theorem setCells_row (h : W.heap[g]? = some (.cells vs.toArray t fr)) : W.setCells g 0 vs = W := setCells_same h vs 0 (fun j v hj => by rw [Nat.zero_add]; simpa using hj)
end
set_option maxRecDepth 100000 in
set_option maxHeartbeats 4000000 in
theorem ahead_c (bs : List Blk) (hE : EdgeOk bs) (hK : KindOk bs) (hn : bs.length ≤ 16) (A : Option Addr) (c : Nat) (w : World) (hC : Kd.C kBlk w A bs.length bs) :
    Calls Tryd.prog 106 #[.slice A bs.length c] w fun e w' => ∃ vs : List Value, e = .returned (.agg vs.toArray) ∧ vs.length = 16 ∧ (∀ (i : Nat) (v : Value), vs[i]? = some v → OwnI w w' v (prL bs (i : Int) bs.length)) ∧ Ext w w' := by
  have HC := Aside0.mk hC
  have HE := Aside0.mk hE
  have HK := Aside0.mk hK
  clear hC hE hK
  go_enter Tryd.func106, Tryd.ntmps106
  go_upto_region 1 with (fail)
  have hb0 := heap_new w (.cells #[.slice none 0 0, .slice none 0 0, .slice none 0 0, .slice none 0 0, .slice none 0 0, .slice none 0 0, .slice none 0 0, .slice none 0 0, .slice none 0 0, .slice none 0 0, .slice none 0 0, .slice none 0 0, .slice none 0 0, .slice none 0 0, .slice none 0 0, .slice none 0 0] 151)
  have HA := Aside0.mk (show AhB w (w.alloc (.cells #[.slice none 0 0, .slice none 0 0, .slice none 0 0, .slice none 0 0, .slice none 0 0, .slice none 0 0, .slice none 0 0, .slice none 0 0, .slice none 0 0, .slice none 0 0, .slice none 0 0, .slice none 0 0, .slice none 0 0, .slice none 0 0, .slice none 0 0, .slice none 0 0] 151)) w.heap.size [.slice none 0 0, .slice none 0 0, .slice none 0 0, .slice none 0 0, .slice none 0 0, .slice none 0 0, .slice none 0 0, .slice none 0 0, .slice none 0 0, .slice none 0 0, .slice none 0 0, .slice none 0 0, .slice none 0 0, .slice none 0 0, .slice none 0 0, .slice none 0 0] (rowsK bs 0) from
    ⟨by simp, Nat.le_refl _, hb0, fun i v hv => by
      have h2 := List.eq_of_mem_replicate (n := 16) (a := Value.slice none 0 0) (List.mem_of_getElem? hv)
      subst h2
      exact OwnI.nil _ _, fun i j v u hv hu _ => by
      have h2 := List.eq_of_mem_replicate (n := 16) (a := Value.slice none 0 0) (List.mem_of_getElem? hv)
      subst h2
      exact .inl rfl, (by repeat (first | assumption | exact Ext.refl _ | exact Ext.of_xt _ _ | apply Ext.alloc | apply Ext.drewN | apply Ext.drew))⟩)
  clear hb0
  have hgs : ∃ g, g = w.heap.size := ⟨_, rfl⟩
  obtain ⟨g, hg⟩ := hgs
  rw [← hg] at HA ⊢
  generalize w.alloc (.cells #[.slice none 0 0, .slice none 0 0, .slice none 0 0, .slice none 0 0, .slice none 0 0, .slice none 0 0, .slice none 0 0, .slice none 0 0, .slice none 0 0, .slice none 0 0, .slice none 0 0, .slice none 0 0, .slice none 0 0, .slice none 0 0, .slice none 0 0, .slice none 0 0] 151) = W at HA ⊢
  clear hg
  go_wp2
  go_loopw [7] (fun i wr => ∃ (k : Nat), k ≤ bs.length ∧ i = .int .i64 k ∧ Aside0 (∃ vs, AhB w wr g vs (rowsK bs k))) (fun i _ => bs.length - (intOf i).toNat)
  case atStart => exact ⟨0, by omega, rfl, ⟨_, HA.out⟩⟩
  case round =>
    obtain ⟨k, hk, rfl, HV⟩ := hrel
    obtain ⟨vs, hA⟩ := HV.out
    clear HV HA
    by_cases hlt : k < bs.length
    case neg =>
      obtain rfl : k = bs.length := by omega
      have HA := Aside0.mk hA
      have hr := rangeAt_row hA.blk
      have ht := there_row hA.blk
      have hs := setCells_row hA.blk
      have h1 : vs.toArray.all (·.oneCell') = true := all_oneCell_toArray (fun v hv => by
        obtain ⟨i, hi, he⟩ := List.getElem_of_mem hv
        obtain ⟨A, n, c, rfl⟩ := (hA.own i v (by rw [List.getElem?_eq_getElem hi, he])).isSlice
        rfl)
      have HR := Aside0.mk hr
      have HT := Aside0.mk ht
      have HS := Aside0.mk hs
      have H1 := Aside0.mk h1
      have HL := Aside0.mk (show (Tryd.prog.info? 151).map (·.size) = some vs.length by rw [hA.ln]; kernel_rfl)
      clear hA hr ht hs h1
      go_wp2_with (first | (refine wpList_load_mid rfl 151 _ rfl g 0 rfl vs _ HR.out Tryd.underlying151 rfl HL.out ?_) | (refine wpList_store_mid rfl 151 _ _ rfl g 0 vs.toArray rfl rfl (by simpa using HT.out) (by simpa using HL.out) H1.out ?_))
      rw [HS.out]
      have hld := run_loadVar_mid (P := Tryd.prog) wr g 0 151 vs _ HR.out Tryd.underlying151 rfl HL.out
      refine bodyPost_ret (v := .agg vs.toArray) ?_ rfl ⟨vs, rfl, HA.out.ln, HA.out.own, HA.out.ext⟩
      exact results_cell_row (d := _) rfl _ _ g _ vs.toArray _ (by rfl) HA.out.blk Tryd.underlying151 rfl (by simpa using HL.out)
    case pos =>
      obtain ⟨bd, D0, d0, he_, y0, y1, y2, y3, y4, ly, gy⟩ := at_Blk (hA.ext.C HC.out) k hlt
      subst he_
      have hE := HE.out _ (List.getElem_mem hlt)
      have hK := HK.out _ (List.getElem_mem hlt)
      have HX := Aside0.mk (show bs.getD k zBlk = bs[k] by simp [List.getD_eq_getElem?_getD, hlt])
      have HE' := Aside0.mk hE
      have HK' := Aside0.mk hK
      have HAr := Aside0.mk hA
      clear ly gy hE hK hA
      generalize bs[k] = x at *
      go_upto_region 4 with (fail)
      have hB0 := heap_new wr (.cells #[.slice D0 x.ins.length d0, .int .u8 x.en.kind, .int .i64 x.en.a, .int .i64 x.en.to, .int .i64 x.en.els] 48)
      have HA0 := Aside0.mk (HAr.out.mve (W1 := wr.alloc (.cells #[.slice D0 x.ins.length d0, .int .u8 x.en.kind, .int .i64 x.en.a, .int .i64 x.en.to, .int .i64 x.en.els] 48)) (by repeat (first | assumption | exact Ext.refl _ | exact Ext.of_xt _ _ | apply Ext.alloc | apply Ext.drewN | apply Ext.drew)))
      have hgs2 : ∃ B, B = wr.heap.size := ⟨_, rfl⟩
      obtain ⟨B, hBe⟩ := hgs2
      rw [← hBe] at hB0 ⊢
      generalize wr.alloc (.cells #[.slice D0 x.ins.length d0, .int .u8 x.en.kind, .int .i64 x.en.a, .int .i64 x.en.to, .int .i64 x.en.els] 48) = W0 at hB0 HA0 ⊢
      clear hBe HAr y0 y1 y2 y3 y4
      have b1 : ∀ V, Ext W0 V → V.cell? ⟨B, 1, none⟩ = some (.int .u8 x.en.kind) := stays (blk_cell hB0 1)
      have b3 : ∀ V, Ext W0 V → V.cell? ⟨B, 3, none⟩ = some (.int .i64 x.en.to) := stays (blk_cell hB0 3)
      have b4 : ∀ V, Ext W0 V → V.cell? ⟨B, 4, none⟩ = some (.int .i64 x.en.els) := stays (blk_cell hB0 4)
      have HB0 := Aside0.mk hB0
      clear hB0
      by_cases h3 : x.en.kind = 3
      case pos =>
        have HR := Aside0.mk (show rowsK bs (k + 1) = rowsK bs k from rowsK_none HX.out (by unfold toE; rw [if_neg (by omega), if_neg (by omega)]))
        rw [h3] at b1
        clear h3
        go_wp2
        go_roundw
        case rel => exact ⟨k + 1, by omega, by go_num, ⟨_, by rw [HR.out]; exact HA0.out⟩⟩
        case measure => simp [intOf]; omega
      case neg =>
        have hq3 : (x.en.kind != 3) = true := by simp [h3]
        have hk12 : x.en.kind = 1 ∨ x.en.kind = 2 := by rcases HK'.out with h | h | h <;> first | exact .inl h | exact .inr h | exact absurd h h3
        have hto : x.en.to ∈ toE x.en := by
          unfold toE
          rcases hk12 with h | h
          · rw [if_pos h]; simp
          · rw [if_neg (by omega), if_pos h]; split <;> simp
        obtain ⟨t0, t1⟩ := HE'.out _ hto
        obtain ⟨c, hc⟩ := Int.eq_ofNat_of_zero_le t0
        have hc16 : c < 16 := by omega
        have hcv : c < vs.length := by rw [HA0.out.ln]; exact hc16
        have hv : vs[c]? = some vs[c] := List.getElem?_eq_getElem hcv
        have av : ∀ V, Ext W0 V → V.cell? ⟨g, c, none⟩ = some vs[c] := stays (by rw [blk_cell HA0.out.blk c]; simp [hcv])
        have HV := Aside0.mk hv
        have HK12 := Aside0.mk hk12
        have HTO := Aside0.mk hc
        rw [hc] at b3
        have hrl := prL_len bs (c : Int) k
        have HOc := Aside0.mk (HA0.out.own c _ hv)
        obtain ⟨Ac, Nc, cc, hsl⟩ := HOc.out.isSlice
        rw [hsl] at av HV HOc
        clear hk12 hto t0 t1 hc hv h3 hsl
        have hc0 : (0 : Int) ≤ (c : Int) := by omega
        have hc1 : (c : Int) < 16 := by omega
        have hBg : B ≠ g := fun e => by
          have h1 := HB0.out
          rw [e, HA0.out.blk] at h1
          injection h1 with h1
          injection h1 with _ h1
          exact absurd h1 (by decide)
        go_upto_region 5 with (fail)
        go_cut [] from 16 to 27 (fun wx => Aside0 (∃ vs1, AhB w wx g vs1 (fun i => if i = c then rowsK bs k i ++ [(k : Int)] else rowsK bs k i)) ∧ Aside0 (wx.heap[B]? = some (.cells #[.slice D0 x.ins.length d0, .int .u8 x.en.kind, .int .i64 x.en.a, .int .i64 x.en.to, .int .i64 x.en.els] 48 (0, 0))))
        case first =>
          go_region_law ((refine step_int (by rfl) (by rfl) (by rfl) (by rfl) (HOc.out.ext (Ext.drew (Ext.refl _))) (HA0.out.ext.trans (Ext.drew (Ext.refl _))) (by unfold rowsK; omega) ?_; intro v1 w1 hv1 hx1 hg1 hl1; have hb1 := blk_grown (g := B) (w := W0.drew) HB0.out hg1 (Kd.R_ne HOc.out HB0.out (by decide)); have hk3 : w1.cell? ⟨B, 3, none⟩ = some (.int .i64 c) := (blk_cell hb1 3).trans (congrArg (fun z => some (Value.int .i64 z)) HTO.out); have hbg := blk_grown (g := g) (w := W0.drew) HA0.out.blk hg1 (Kd.R_ne HOc.out HA0.out.blk (by decide)); have kv : w1.cell? ⟨g, c, none⟩ = some (.slice Ac Nc cc) := (blk_cell hbg c).trans (by rw [List.getElem?_toArray]; exact HV.out); have fv := blk_frozen hbg c; obtain ⟨A1, N1, c1, rfl⟩ := hv1.isSlice; have HV1 := Aside0.mk hv1; have HX1 := Aside0.mk hx1; have HG1 := Aside0.mk hg1; have HL1 := Aside0.mk hl1; have HB1 := Aside0.mk hb1; clear hv1 hx1 hg1 hl1 hb1 hbg))
          all_goals
            have HA1 := Aside0.mk (HA0.out.mve (Ext.drew (Ext.refl W0)) |>.put HV.out HV1.out HX1.out HG1.out HL1.out)
            have HB2 := Aside0.mk (blk_far HB1.out (p := ⟨g, c, none⟩) hBg (.slice A1 N1 c1))
            clear hk3 kv fv
            go_wp2_with fail
            go_meet
            case rel => exact ⟨⟨_, HA1.out⟩, HB2⟩
        case rest =>
          obtain ⟨HA1, HB1⟩ := hcut
          obtain ⟨vs1, hA1⟩ := HA1.out
          have hb1 := HB1.out
          obtain ⟨W2, hW2⟩ : ∃ W2, W2 = wc := ⟨_, rfl⟩
          rw [← hW2] at hA1 hb1 ⊢
          clear hW2 HA1 HB1 HA0 HB0 b1 b3 b4 av HOc
          have HA2 := Aside0.mk hA1
          have b1 : ∀ V, Ext W2 V → V.cell? ⟨B, 1, none⟩ = some (.int .u8 x.en.kind) := stays (blk_cell hb1 1)
          have b3 : ∀ V, Ext W2 V → V.cell? ⟨B, 3, none⟩ = some (.int .i64 x.en.to) := stays (blk_cell hb1 3)
          have b4 : ∀ V, Ext W2 V → V.cell? ⟨B, 4, none⟩ = some (.int .i64 x.en.els) := stays (blk_cell hb1 4)
          have HB2 := Aside0.mk hb1
          clear hA1 hb1
          by_cases h1 : x.en.kind = 1
          case pos =>
            have HR := Aside0.mk (rowsK_one (k := k) HX.out (show toE x.en = [(c : Int)] by unfold toE; rw [if_pos h1, HTO.out]))
            rw [h1] at b1
            clear h1 HK12
            go_wp2
            go_roundw
            case rel => exact ⟨k + 1, by omega, by go_num, ⟨_, by rw [HR.out]; exact HA2.out⟩⟩
            case measure => simp [intOf]; omega
          have h2 : x.en.kind = 2 := by rcases HK12.out with h | h <;> first | exact absurd h h1 | exact h
          rw [h2] at b1
          clear HK12
          by_cases he : x.en.to = x.en.els
          case pos =>
            have HR := Aside0.mk (rowsK_one (k := k) HX.out (show toE x.en = [(c : Int)] by unfold toE; rw [if_neg h1, if_pos h2, if_pos he, HTO.out]))
            rw [← he, HTO.out] at b4
            rw [HTO.out] at b3
            have hq : ((c : Int) != (c : Int)) = false := by simp
            clear h1 h2 he
            go_wp2
            go_roundw
            case rel => exact ⟨k + 1, by omega, by go_num, ⟨_, by rw [HR.out]; exact HA2.out⟩⟩
            case measure => simp [intOf]; omega
          case neg =>
            have hel : x.en.els ∈ toE x.en := by
              unfold toE
              rw [if_neg h1, if_pos h2, if_neg he]; simp
            obtain ⟨t0, t1⟩ := HE'.out _ hel
            obtain ⟨d, hd⟩ := Int.eq_ofNat_of_zero_le t0
            have hcd : c ≠ d := fun e => he (by rw [HTO.out, hd, e])
            have HR := Aside0.mk (rowsK_two (k := k) HX.out (show toE x.en = [(c : Int), (d : Int)] by unfold toE; rw [if_neg h1, if_pos h2, if_neg he, HTO.out, hd]) hcd)
            have hd16 : d < 16 := by omega
            have hd0 : (0 : Int) ≤ (d : Int) := by omega
            have hd1 : (d : Int) < 16 := by omega
            have hdv : d < vs1.length := by rw [HA2.out.ln]; exact hd16
            have hv : vs1[d]? = some vs1[d] := List.getElem?_eq_getElem hdv
            have av : ∀ V, Ext W2 V → V.cell? ⟨g, d, none⟩ = some vs1[d] := stays (by rw [blk_cell HA2.out.blk d]; simp [hdv])
            have HVd := Aside0.mk hv
            have HEL := Aside0.mk hd
            rw [HTO.out] at b3
            rw [hd] at b4
            have hq : ((d : Int) != (c : Int)) = true := by simp; omega
            have hrl2 : (if d = c then rowsK bs k d ++ [(k : Int)] else rowsK bs k d).length ≤ 1000000000 := by
              rw [if_neg (fun e => hcd e.symm)]
              have := prL_len bs (d : Int) k
              unfold rowsK
              omega
            have HOd := Aside0.mk (HA2.out.own d _ hv)
            obtain ⟨Ad, Nd, cd, hsl⟩ := HOd.out.isSlice
            rw [hsl] at av HVd HOd
            clear hel t0 t1 hd hv h1 h2 he hcd hsl hd16 hdv
            go_upto_region 7 with (fail)
            go_region_law ((refine step_int (by rfl) (by rfl) (by rfl) (by rfl) (HOd.out.ext (Ext.drew (Ext.refl _))) (HA2.out.ext.trans (Ext.drew (Ext.refl _))) hrl2 ?_; intro v1 w1 hv1 hx1 hg1 hl1; have hb1 := blk_grown (g := B) (w := W2.drew) HB2.out hg1 (Kd.R_ne HOd.out HB2.out (by decide)); have hk4 : w1.cell? ⟨B, 4, none⟩ = some (.int .i64 d) := (blk_cell hb1 4).trans (congrArg (fun z => some (Value.int .i64 z)) HEL.out); have hbg := blk_grown (g := g) (w := W2.drew) HA2.out.blk hg1 (Kd.R_ne HOd.out HA2.out.blk (by decide)); have kv : w1.cell? ⟨g, d, none⟩ = some (.slice Ad Nd cd) := (blk_cell hbg d).trans (by rw [List.getElem?_toArray]; exact HVd.out); have fv := blk_frozen hbg d; obtain ⟨A1, N1, c1, rfl⟩ := hv1.isSlice; have HV1 := Aside0.mk hv1; have HX1 := Aside0.mk hx1; have HG1 := Aside0.mk hg1; have HL1 := Aside0.mk hl1; have HB1 := Aside0.mk hb1; clear hv1 hx1 hg1 hl1 hb1 hbg))
            all_goals
              have HA3 := Aside0.mk (show AhB w _ g _ (rowsK bs (k + 1)) by rw [HR.out]; exact HA2.out.mve (Ext.drew (Ext.refl W2)) |>.put HVd.out HV1.out HX1.out HG1.out HL1.out)
              clear hk4 kv fv
              go_wp2
              go_roundw
              case rel => exact ⟨k + 1, by omega, by go_num, ⟨_, HA3.out⟩⟩
              case measure => simp [intOf]; omega
end Go.Proofs.YtjbnabjjbofhjaaDoor.Fes
