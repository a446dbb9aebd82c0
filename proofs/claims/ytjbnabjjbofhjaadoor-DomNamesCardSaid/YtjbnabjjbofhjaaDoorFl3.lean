/- Package flow: going through blocks in depth. -/
import Derived.Test.YtjbnabjjbofhjaaDoorFl2
import Derived.Test.YtjbnabjjbofhjaaDoorPo
import Derived.Maps.OwnSet
import Derived.StillTailTactics
set_option linter.unusedVariables false
set_option linter.unusedSimpArgs false
namespace Go.Proofs.YtjbnabjjbofhjaaDoor.Fes
open Go.RowKit Go.Proofs.YtjbnabjjbofhjaaDoorW.PrintWords
open Go.Maps (Keyed)

theorem lawInt : Keyed Tryd.prog 3 := Go.Maps.int_keyed Tryd.underlying3
/-- blocks' edges, as numbers -/
def toN (bs : List Blk) (k : Nat) : List Nat := (toE (bs.getD k zBlk).en).map Int.toNat
/-- edges are blocks' numbers -/
def EdgeOk (bs : List Blk) : Prop := ∀ b ∈ bs, ∀ c ∈ toE b.en, 0 ≤ c ∧ c < bs.length
theorem EdgeOk.inside {bs : List Blk} (h : EdgeOk bs) : Inside (toN bs) bs.length := by
  intro b hb c hc
  unfold toN at hc
  obtain ⟨x, hx, rfl⟩ := List.mem_map.1 hc
  have := h (bs.getD b zBlk) (by rw [List.getD_eq_getElem?_getD, List.getElem?_eq_getElem hb]; exact List.getElem_mem hb) x hx
  omega
theorem EdgeOk.cast {bs : List Blk} (h : EdgeOk bs) {k : Nat} (hk : k < bs.length) : toE (bs[k]).en = (toN bs k).map fun c : Nat => (c : Int) := by
  unfold toN
  rw [List.getD_eq_getElem?_getD, List.getElem?_eq_getElem hk, List.map_map]
  simp only [Option.getD_some]
  conv => lhs; rw [← List.map_id (toE (bs[k]).en)]
  apply List.map_congr_left
  intro x hx
  have := h _ (List.getElem_mem hk) x hx
  simp only [id, Function.comp]
  omega

theorem OwnI.isSlice {w W : World} {v : Value} {xs : List Int} (h : OwnI w W v xs) : ∃ A n c, v = .slice A n c := by
  obtain ⟨A, c, he, _, _⟩ := h.reads
  exact ⟨A, _, c, he⟩
/-- The state of a walk: its blocks, which are begun, which are done. -/
structure Wk (n : Nat) (w0 W : World) (g m : Nat) (A : Option Addr) (len c : Nat) (v : Value) (B D : List Nat) : Prop where
  blk : W.heap[g]? = some (.cells #[.slice A len c, .map (some m), v] 129 (0, 0))
  hg : w0.heap.size ≤ g
  hm : w0.heap.size ≤ m
  map : ∃ M : DataW Unit, W.ownsMap Tryd.prog 3 (plainElem Tryd.prog 3) m B.length M ∧ ∀ x : Nat, Maps.has M (.int .i64 x) = B.contains x
  few : B.length + undone n B ≤ n
  own : OwnI w0 W v (D.map fun x : Nat => (x : Int))
  dl : D.length ≤ B.length
  ext : Ext w0 W
/-- What may turn: the walk's own blocks. -/
structure Stp (g m : Nat) (v v' : Value) (W W' : World) : Prop where
  keep : ∀ k, k < W.heap.size → k ≠ g → k ≠ m → some k ≠ v.ownBlock → W'.heap[k]? = W.heap[k]?
  own : v'.ownBlock = v.ownBlock ∨ ∃ b, v'.ownBlock = some b ∧ W.heap.size ≤ b
  size : W.heap.size ≤ W'.heap.size
theorem Stp.refl (g m : Nat) (v : Value) (W : World) : Stp g m v v W W := ⟨fun _ _ _ _ _ => rfl, .inl rfl, Nat.le_refl _⟩
theorem Stp.trans {g m : Nat} {v v1 v2 : Value} {W W1 W2 : World} (h : Stp g m v v1 W W1) (k : Stp g m v1 v2 W1 W2) : Stp g m v v2 W W2 := by
  refine ⟨fun j hj hg hm hv => ?_, ?_, Nat.le_trans h.size k.size⟩
  · rw [k.keep j (Nat.lt_of_lt_of_le hj h.size) hg hm ?_, h.keep j hj hg hm hv]
    rcases h.own with e | ⟨b, e, hb⟩
    · rw [e]; exact hv
    · rw [e]
      intro e2
      obtain rfl : j = b := by simpa using e2
      omega
  · rcases k.own with e | ⟨b, e, hb⟩
    · rw [e]; exact h.own
    · exact .inr ⟨b, e, Nat.le_trans h.size hb⟩
theorem Stp.ext {g m : Nat} {v : Value} {W W' : World} (h : Ext W W') : Stp g m v v W W' := ⟨fun j hj _ _ _ => h.b.block j hj, .inl rfl, h.size⟩
theorem Stp.ext2 {g m : Nat} {v v1 : Value} {W W1 W2 : World} (h : Stp g m v v1 W W1) (k : Ext W1 W2) : Stp g m v v1 W W2 := h.trans (Stp.ext k)
/-- A row that is younger than the walk's blocks stays. -/
theorem OwnI.stp {g m : Nat} {v v' u : Value} {w W W' : World} {xs : List Int} (h : OwnI w W u xs) (hg : g < w.heap.size) (hm : m < w.heap.size) (hv : ∀ b, v.ownBlock = some b → b < w.heap.size) (hs : Stp g m v v' W W') : OwnI w W' u xs := by
  refine Kd.R_mono (Kd.R_step (Kd.R_bound h) (fun k hk hlt => hs.keep k hlt ?_ ?_ ?_)) (fun _ _ => trivial)
  · have := hk.2.1; omega
  · have := hk.2.1; omega
  · intro e
    have := hv k e.symm
    have := hk.2.1
    omega
theorem Wk.vlt {n : Nat} {w0 W : World} {g m : Nat} {A : Option Addr} {len c : Nat} {v : Value} {B D : List Nat} (h : Wk n w0 W g m A len c v B D) : ∀ b, v.ownBlock = some b → b < W.heap.size := fun b hb => own_lt (Kd.R_own h.own).choose_spec b hb
theorem Wk.glt {n : Nat} {w0 W : World} {g m : Nat} {A : Option Addr} {len c : Nat} {v : Value} {B D : List Nat} (h : Wk n w0 W g m A len c v B D) : g < W.heap.size := blk_lt h.blk
theorem Wk.mlt {n : Nat} {w0 W : World} {g m : Nat} {A : Option Addr} {len c : Nat} {v : Value} {B D : List Nat} (h : Wk n w0 W g m A len c v B D) : m < W.heap.size := by
  obtain ⟨M, hM, _⟩ := h.map
  exact hM.lt
theorem Wk.mve {n : Nat} {w0 W : World} {g m : Nat} {A : Option Addr} {len c : Nat} {v : Value} {B D : List Nat} (h : Wk n w0 W g m A len c v B D) {W' : World} (he : Ext W W') : Wk n w0 W' g m A len c v B D := by
  obtain ⟨M, hM, hh⟩ := h.map
  exact ⟨he.blk h.blk, h.hg, h.hm, ⟨M, hM.kept (row := none) (grown_of_below he.b none) (by simp), hh⟩, h.few, h.own.ext he, h.dl, h.ext.trans he⟩

/-- What a call that goes on with the walk does. -/
def WkPost (n : Nat) (w0 W : World) (g m : Nat) (A : Option Addr) (len c : Nat) (v : Value) (s : List Nat × List Nat) (e : Ending) (W' : World) : Prop :=
  e = .returned (.tuple #[]) ∧ ∃ v', Wk n w0 W' g m A len c v' s.1 s.2 ∧ Stp g m v v' W W'
/-- Going through a block, with f rounds left. -/
def BlockGoes (bs : List Blk) (w0 : World) (g m : Nat) (A : Option Addr) (c f : Nat) : Prop :=
  ∀ (W : World) (v : Value) (B D : List Nat) (b : Nat), Wk bs.length w0 W g m A bs.length c v B D → undone bs.length B < f → b < bs.length →
    Calls Tryd.prog 86 #[.pointer (some ⟨g, 0, none⟩), .int .i64 b] W (WkPost bs.length w0 W g m A bs.length c v (dfs (toN bs) f (B, D) b))

set_option maxHeartbeats 2000000 in
theorem each_c (bs : List Blk) (hE : EdgeOk bs) (w0 : World) (g m : Nat) (A : Option Addr) (c f : Nat) (hblk : BlockGoes bs w0 g m A c f) (l : List Nat) (A1 : Option Addr) (c1 : Nat) (W : World) (v : Value) (B D : List Nat)
    (hW : Wk bs.length w0 W g m A bs.length c v B D) (hu : undone bs.length B < f) (hl : ∀ b ∈ l, b < bs.length) (hm : l.length ≤ 1000000)
    (hr : ∀ W' v', Ext w0 W' → Stp g m v v' W W' → Kd.C (Kd.int .i64) W' A1 l.length (l.map fun x : Nat => (x : Int))) :
    Calls Tryd.prog 85 #[.pointer (some ⟨g, 0, none⟩), .slice A1 l.length c1, .func (.func 86) #[] #[]] W (WkPost bs.length w0 W g m A bs.length c v (dfsL (toN bs) f (B, D) l)) := by
  have HB := Aside0.mk hblk
  have HW := Aside0.mk hW
  have HL := Aside0.mk hl
  have HR := Aside0.mk hr
  have HE := Aside0.mk hE
  have HU := Aside0.mk hu
  clear hblk hW hl hr hE hu
  have eg : ∀ args w, (callFunc 86 args).run Tryd.prog w = .ok (.enter 86 args) w := enters_of Tryd.func86 (by kernel_rfl) rfl
  go_enter Tryd.func85, Tryd.ntmps85
  go_wp2
  go_loopw [10] (fun i wr => ∃ (k : Nat) (v' : Value), k ≤ l.length ∧ i = .int .i64 k ∧ Aside0 (Wk bs.length w0 wr g m A bs.length c v' (dfsL (toN bs) f (B, D) (l.take k)).1 (dfsL (toN bs) f (B, D) (l.take k)).2) ∧ Aside0 (Stp g m v v' W wr)) (fun i _ => l.length - (intOf i).toNat)
  case atStart => exact ⟨0, v, by omega, rfl, ⟨by simpa [dfsL] using HW.out⟩, ⟨Stp.refl _ _ _ _⟩⟩
  case round =>
    obtain ⟨k, v', hk, rfl, hs, hst⟩ := hrel
    by_cases hlt : k < l.length
    · have hC0 : Kd.C (Kd.int .i64) wr A1 (l.map fun x : Nat => (x : Int)).length (l.map fun x : Nat => (x : Int)) := by rw [List.length_map]; exact HR.out wr v' hs.out.ext hst.out
      obtain ⟨ad, rfl, a0⟩ := at_int hC0 k (by simpa using hlt)
      clear hC0
      have hx : (l.map fun x : Nat => (x : Int))[k]'(by simpa using hlt) = (l[k] : Int) := by simp
      rw [hx] at a0
      have a0 := a0 wr (Ext.refl _)
      have HD := Aside0.mk (show dfsL (toN bs) f (B, D) (l.take (k + 1)) = dfs (toN bs) f (dfsL (toN bs) f (B, D) (l.take k)) l[k] by
        unfold dfsL; rw [take_snoc l k hlt, List.foldl_append]; rfl)
      have hlk := HL.out _ (List.getElem_mem hlt)
      have HU2 := Aside0.mk (show undone bs.length (dfsL (toN bs) f (B, D) (l.take k)).1 < f by
        obtain ⟨new, gn⟩ := dfsL_gone (toN bs) bs.length HE.out.inside f (l.take k) B D HU.out (fun b hb => HL.out b (List.mem_of_mem_take hb))
        exact Nat.lt_of_le_of_lt (undone_le _ _ _ (fun x hx => (gn.mem x).2 (.inl hx))) HU.out)
      generalize l[k] = b at *
      clear hx
      go_wp2_with fail
      go_at_fn 86
      refine (HB.out wr v' _ _ b hs.out HU2.out hlk).mono ?_
      rintro _ w1 ⟨rfl, v1, hW1, hS1⟩
      have HW1 := Aside0.mk hW1
      have HS1 := Aside0.mk hS1
      clear hW1 hS1
      go_wp2
      go_roundw
      case rel => exact ⟨k + 1, v1, by omega, by go_num, ⟨by rw [HD.out]; exact HW1.out⟩, ⟨hst.out.trans HS1.out⟩⟩
      case measure => simp [intOf]; omega
    · obtain rfl : k = l.length := by omega
      have HS := Aside0.mk (show Wk bs.length w0 wr g m A bs.length c v' (dfsL (toN bs) f (B, D) l).1 (dfsL (toN bs) f (B, D) l).2 by have := hs.out; rwa [List.take_length] at this)
      clear hs
      go_wp2
      go_end0
      exact ⟨rfl, v', HS.out, hst.out⟩

theorem dfs_len (E : Nat → List Nat) : ∀ (f : Nat) (s : List Nat × List Nat) (b : Nat), (dfs E f s b).2.length + s.1.length ≤ s.2.length + (dfs E f s b).1.length := by
  intro f
  induction f with
  | zero => intro s b; simp [dfs]
  | succ f ih =>
    have ihL : ∀ (l : List Nat) (s : List Nat × List Nat), (l.foldl (dfs E f) s).2.length + s.1.length ≤ s.2.length + (l.foldl (dfs E f) s).1.length := by
      intro l
      induction l with
      | nil => intro s; simp
      | cons x l ihl =>
        intro s
        have h1 := ih s x
        have h2 := ihl (dfs E f s x)
        simp only [List.foldl_cons]
        omega
    intro s b
    unfold dfs
    split
    · omega
    · have := ihL (E b) (s.1 ++ [b], s.2)
      simp only [List.length_append, List.length_singleton] at this ⊢
      omega
theorem dfsL_len (E : Nat → List Nat) (f : Nat) : ∀ (l : List Nat) (s : List Nat × List Nat), (dfsL E f s l).2.length + s.1.length ≤ s.2.length + (dfsL E f s l).1.length := by
  intro l
  unfold dfsL
  induction l with
  | nil => intro s; simp
  | cons x l ihl =>
    intro s
    have h1 := dfs_len E f s x
    have h2 := ihl (dfs E f s x)
    simp only [List.foldl_cons]
    omega
section
variable {n : Nat} {w0 W w1 : World} {g m : Nat} {A : Option Addr} {len c : Nat} {v : Value} {B D : List Nat}
theorem Wk.gm (h : Wk n w0 W g m A len c v B D) : g ≠ m := by
  obtain ⟨M, ⟨es, cl, hb, _⟩, _⟩ := h.map
  rintro rfl
  rw [h.blk] at hb
  cases hb
theorem Wk.vm (h : Wk n w0 W g m A len c v B D) : v.ownBlock ≠ some m := by
  intro e
  obtain ⟨M, ⟨es, cl, hb, _⟩, _⟩ := h.map
  obtain ⟨cells, hc⟩ := own_typed (Kd.R_own h.own).choose_spec m e
  rw [hb] at hc
  cases hc
theorem Wk.vg (h : Wk n w0 W g m A len c v B D) : some g ≠ v.ownBlock := Kd.R_ne h.own h.blk (by decide)
theorem Wk.put (h : Wk n w0 W g m A len c v B D) {M : DataW Unit} (hM : W.ownsMap Tryd.prog 3 (plainElem Tryd.prog 3) m B.length M) (hh : ∀ x : Nat, Maps.has M (.int .i64 x) = B.contains x) {b : Nat} (hb : b < n) (hB : b ∉ B) {d : DataW Unit}
    (h1 : w1.ownsMap Tryd.prog 3 (plainElem Tryd.prog 3) m (B.length + 1) (M.put (.int .i64 b) d)) (hg : W.grownBy w1 (some m)) : Wk n w0 w1 g m A len c v (B ++ [b]) D ∧ Stp g m v v W w1 := by
  have hlt := undone_lt n B b hb hB
  have hst : Stp g m v v W w1 := ⟨fun k hk _ hkm _ => hg.block k hk (by simpa using hkm), .inl rfl, hg.size⟩
  refine ⟨⟨?_, h.hg, h.hm, ⟨M.put (.int .i64 b) d, by simpa using h1, fun x => ?_⟩, ?_, ?_, ?_, ?_⟩, hst⟩
  · rw [hg.block g h.glt (by have := h.gm; simpa using this)]; exact h.blk
  · by_cases hx : x = b
    · subst hx
      rw [Go.Maps.has_put_same (hM.tidy lawInt).isMap (by trivial)]
      simp
    · rw [Go.Maps.has_put_other (by intro e; injection e with _ e; omega), hh]
      simp [hx]
  · have := h.few
    simp only [List.length_append, List.length_singleton]
    omega
  · refine Kd.R_mono (Kd.R_step (Kd.R_bound h.own) (fun k hk hlt => hg.block k hlt ?_)) (fun _ _ => trivial)
    intro e
    obtain rfl : k = m := by simpa using e
    obtain ⟨_, _, _, q, _, cells, hc⟩ := hk
    obtain ⟨es, cl, hb2, _⟩ := hM
    rw [hb2] at hc
    cases hc
  · have := h.dl
    simp only [List.length_append, List.length_singleton]
    omega
  · refine ⟨?_⟩
    have he := h.ext.b
    exact ⟨hg.os.trans he.os, hg.tape.trans he.tape, hg.output.trans he.output, Nat.le_trans he.size hg.size, fun k hk => by
      rw [hg.block k (Nat.lt_of_lt_of_le hk he.size) (by have := h.hm; intro e; have : k = m := by simpa using e
                                                         omega)]
      exact he.block k hk⟩
theorem Wk.app (h : Wk n w0 W g m A len c v B D) {v1 : Value} {b : Nat} (hv : OwnI w0 w1 v1 ((D.map fun x : Nat => (x : Int)) ++ [(b : Int)])) (hx : Ext w0 w1) (hg : W.grownBy w1 v.ownBlock) (hl : v1.ownBlock = v.ownBlock ∨ ∃ b, v1.ownBlock = some b ∧ W.heap.size ≤ b) (hD : D.length + 1 ≤ B.length) :
    Wk n w0 (w1.setCell ⟨g, 2, none⟩ v1) g m A len c v1 B (D ++ [b]) ∧ Stp g m v v1 W (w1.setCell ⟨g, 2, none⟩ v1) := by
  have hblk : w1.heap[g]? = some (.cells #[.slice A len c, .map (some m), v] 129 (0, 0)) := by rw [hg.block g h.glt h.vg]; exact h.blk
  have hfar : ∀ k, k ≠ g → (w1.setCell ⟨g, 2, none⟩ v1).heap[k]? = w1.heap[k]? := fun k hk => Below.heap_setCell w1 ⟨g, 2, none⟩ v1 k hk
  have hsz : (w1.setCell ⟨g, 2, none⟩ v1).heap.size = w1.heap.size := by simp
  refine ⟨⟨?_, h.hg, h.hm, ?_, h.few, ?_, ?_, Ext.set hx h.hg v1⟩, ⟨fun k hk hkg hkm hkv => ?_, hl, by rw [hsz]; exact hg.size⟩⟩
  · exact blk_set hblk 2 v1
  · obtain ⟨M, hM, hh⟩ := h.map
    have h1 := hM.kept hg (fun e => h.vm e.symm)
    obtain ⟨es, cl, hb2, r⟩ := h1
    exact ⟨M, ⟨es, cl, (hfar m (fun e => h.gm e.symm)).trans hb2, r⟩, hh⟩
  · rw [List.map_append]
    exact OwnS.set (OwnS.int hv) hblk (by decide) 2 v1
  · simp only [List.length_append, List.length_singleton]; omega
  · rw [hfar k hkg]; exact hg.block k hk hkv
end
theorem dfs_in {E : Nat → List Nat} {f : Nat} {B D : List Nat} {b : Nat} (h : b ∈ B) : dfs E (f + 1) (B, D) b = (B, D) := by simp [dfs, h]
theorem dfs_out {E : Nat → List Nat} {f : Nat} {B D : List Nat} {b : Nat} (h : b ∉ B) : dfs E (f + 1) (B, D) b = ((dfsL E f (B ++ [b], D) (E b)).1, (dfsL E f (B ++ [b], D) (E b)).2 ++ [b]) := by simp [dfs, dfsL, h]

set_option maxRecDepth 100000 in
set_option maxHeartbeats 4000000 in
theorem block_c (bs : List Blk) (hE : EdgeOk bs) (hn : bs.length ≤ 20) (w0 : World) (g m : Nat) (A : Option Addr) (c : Nat) (hC : Kd.C kBlk w0 A bs.length bs) : ∀ f, BlockGoes bs w0 g m A c f := by
  intro f
  induction f with
  | zero => intro W v B D b _ h _; omega
  | succ f ih =>
    intro W v B D b hW hu hb
    have HI := Aside0.mk ih
    have HE := Aside0.mk hE
    have HC := Aside0.mk hC
    have HW := Aside0.mk hW
    obtain ⟨M, hM, hh⟩ := hW.map
    have c0 := blk_cell hW.blk 0
    have c1 := blk_cell hW.blk 1
    have c2 := blk_cell hW.blk 2
    have f2 := blk_frozen hW.blk 2
    have hhb := hh b
    have HH := Aside0.mk hh
    have HM := Aside0.mk hM
    have HK := Aside0.mk (Go.Maps.keyOf_int_mk (P := Tryd.prog) (k := 3) Tryd.underlying3 (show (Lit.int .i64 (b : Int)).wf = true from WalkArith.wf_i64 (by omega)))
    clear ih hE hC hW hM hh
    by_cases hB : b ∈ B
    · have HD := Aside0.mk (dfs_in (E := toN bs) (f := f) (D := D) hB)
      rw [List.contains_eq_mem, decide_eq_true hB] at hhb
      clear hB
      go_enter Tryd.func86, Tryd.ntmps86
      go_wp2_with (at_lookup; refine wpList_lookup_own_ok_int _ rfl _ _ 116 rfl 3 3 .i64 lawInt Tryd.underlying116 Tryd.underlying3 (zeroInt _) m B.length M rfl HM.out _ _ rfl HK.out ?_; intro cc hat hwc; clear hat)
      go_end0
      refine ⟨rfl, v, ?_, Stp.refl _ _ _ _⟩
      rw [HD.out]
      exact HW.out
    · have HD := Aside0.mk (dfs_out (E := toN bs) (f := f) (D := D) hB)
      have hlt := undone_lt bs.length B b hb hB
      rw [List.contains_eq_mem, decide_eq_false hB] at hhb
      have HB := Aside0.mk hB
      have hln : ∀ ty, (Builtin.len_ #[116] ty #[.map (some m)]).run Tryd.prog W.drew = .ok (.int .i64 (Maps.size M)) W.drew := fun ty => (HM.out.kept (row := none) (grown_of_below (Ext.drew (Ext.refl W)).b none) (by simp)).len Tryd.underlying116 ty
      clear hB
      go_enter Tryd.func86, Tryd.ntmps86
      go_wp2_with (at_lookup; refine wpList_lookup_own_ok_int _ rfl _ _ 116 rfl 3 3 .i64 lawInt Tryd.underlying116 Tryd.underlying3 (zeroInt _) m B.length M rfl HM.out _ _ rfl HK.out ?_; intro cc hat hwc; clear hat)
      go_still_tail 10, (by kernel_rfl)
      change wpList _ _ _ _ _ W.drew
      have HWd := Aside0.mk (HW.out.mve (Ext.drew (Ext.refl W)))
      have HMd := Aside0.mk (HM.out.kept (row := none) (grown_of_below (Ext.drew (Ext.refl W)).b none) (by simp))
      have HSd := Aside0.mk (Stp.ext (g := g) (m := m) (v := v) (Ext.drew (Ext.refl W)))
      have hsl := HM.out.size_le
      have hfw := HW.out.few
      clear hln c0 c1 c2 f2
      generalize W.drew = Wd at *
      refine wpList_mapUpdate_own _ rfl _ _ _ 116 rfl 3 3 lawInt Tryd.underlying116 _ m B.length M rfl HMd.out (by unfold maxLen; omega) _ _ _ rfl rfl HK.out _ [] (plainElem_int Tryd.underlying3 (WalkArith.wf_i64 (by omega))) ?_
      intro w1 hM1 hG1
      obtain ⟨hW1, hS1⟩ := HWd.out.put HMd.out HH.out hb HB.out hM1 hG1
      have HW1 := Aside0.mk hW1
      have HS1 := Aside0.mk (HSd.out.trans hS1)
      clear hM1 hG1 hS1
      have c0 : ∀ V, Ext w1 V → V.cell? ⟨g, 0, none⟩ = some (.slice A bs.length c) := stays (blk_cell hW1.blk 0)
      obtain ⟨bd, D0, d0, rfl, y0, y1, y2, y3, y4, ly, gy⟩ := at_Blk (hW1.ext.C HC.out) b hb
      have HT := Aside0.mk (HE.out.cast hb)
      clear ly gy hW1
      generalize bs[b] = bl at *
      go_wp2_with fail
      refine (next_c w1 bl.en).mono ?_
      rintro _ w2 ⟨v2, rfl, hv2, hx2⟩
      rw [HT.out] at hv2
      obtain ⟨gA, gc, rfl, hgl, hgC⟩ := hv2.reads
      have HV2 := Aside0.mk hv2
      have HX2 := Aside0.mk hx2
      rw [List.length_map] at hgl hgC ⊢
      clear hv2 hx2 hgC hgl
      have HW2 := Aside0.mk (HW1.out.mve HX2.out)
      have hlb := HE.out.inside b hb
      have htl : (toN bs b).length ≤ 2 := by
        have := toE_len bl.en
        rw [HT.out, List.length_map] at this
        exact this
      have HLB := Aside0.mk hlb
      clear hlb
      go_wp2_with fail
      refine (each_c bs HE.out w0 g m _ c f HI.out (toN bs b) gA gc w2 v (B ++ [b]) D HW2.out (by omega) HLB.out (by omega) ?_).mono ?_
      · intro W' v' hW' hS'
        have hs := HV2.out.stp HW1.out.glt HW1.out.mlt HW1.out.vlt hS'
        obtain ⟨gA', gc', he, _, hC'⟩ := hs.reads
        rw [List.length_map] at hC' he
        obtain ⟨rfl, _⟩ : gA = gA' ∧ gc = gc' := by simpa using he
        exact hC'
      · rintro _ w3 ⟨rfl, v3, hW3, hS3⟩
        have HW3 := Aside0.mk hW3
        have HS3 := Aside0.mk (HS1.out.trans ((Stp.ext HX2.out).trans hS3))
        have c2 := blk_cell hW3.blk 2
        have hb3 := hW3.few
        have hdl := dfsL_len (toN bs) f (toN bs b) (B ++ [b], D)
        have hdl0 := HW.out.dl
        simp only [List.length_append, List.length_singleton] at hdl
        have HO3 := Aside0.mk hW3.own
        have e_w0_w3 := hW3.ext
        clear hW3 hS3
        have hD3 : (List.map (fun x : Nat => (x : Int)) (dfsL (toN bs) f (B ++ [b], D) (toN bs b)).2).length ≤ 1000000000 := by rw [List.length_map]; omega
        go_wp2_with (at_builtin; refine app_int rfl rfl rfl rfl HO3.out e_w0_w3 hD3 ?_; intro v4 w4 hv4 hx4 hg4 hl4; obtain ⟨A4, N4, c4, rfl⟩ := hv4.isSlice; have HV4 := Aside0.mk hv4; have HX4 := Aside0.mk hx4; have HG4 := Aside0.mk hg4; have HL4 := Aside0.mk hl4; have hblk4 := (hg4.block g HW3.out.glt HW3.out.vg).trans HW3.out.blk; have c2b := blk_cell hblk4 2; have f2b := blk_frozen hblk4 2; clear hv4 hx4 hg4 hl4 hblk4)
        obtain ⟨hW5, hS5⟩ := HW3.out.app HV4.out HX4.out HG4.out HL4.out (by omega)
        go_end0
        refine ⟨rfl, _, ?_, HS3.out.trans hS5⟩
        rw [HD.out]
        exact hW5
end Go.Proofs.YtjbnabjjbofhjaaDoor.Fes
