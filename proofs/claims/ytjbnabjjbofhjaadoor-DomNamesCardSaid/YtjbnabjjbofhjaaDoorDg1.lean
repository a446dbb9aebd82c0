/- The statements of layer 10: their own functions. -/
import Derived.Test.YtjbnabjjbofhjaaDoorDo5
import Derived.Test.YtjbnabjjbofhjaaDoorLits
import Derived.Test.YtjbnabjjbofhjaaDoorG06
set_option linter.unusedVariables false
set_option linter.unusedSimpArgs false
namespace Go.Proofs.YtjbnabjjbofhjaaDoor.Fes
open Go.RowKit Go.Proofs.YtjbnabjjbofhjaaDoorW.PrintWords

theorem infoBlkD : (Tryd.prog.info? 48).map (fun i => (i.zero, i.size, i.bytes)) = some (some (.agg #[.slice none 0 0, .int .u8 0, .int .i64 0, .int .i64 0, .int .i64 0]), 5, 56) := by kernel_rfl
/-- A row that is written out. -/
theorem OwnS.lits {α : Type} (d : Kd α) (e : Nat) {w W : World} {xs : List α} {cs : List Value} (hx : Ext w W) (hrep : Reps (d.M W w.heap.size (fun _ => True)) d.sz xs cs) (hl : xs.length ≤ 1000) {n : Nat} (hn : n = W.heap.size) : OwnS d e w (W.alloc (.cells cs.toArray e)) (.slice (some ⟨n, 0, none⟩) xs.length xs.length) xs := by
  subst hn
  refine ⟨fun _ _ => trivial, cs, ?_, ?_⟩
  · have h2 := World.ownsRow_lit (base := w.heap.size) (e := e) (size := d.sz) W cs.toArray xs.length hx.size (by simp [maxLen]; omega) (by simpa using hrep.1)
    simpa using h2
  · refine hrep.imp_ (fun p c hp => d.M_mono (fun k hk => ⟨trivial, fun he => ?_⟩) (Kd.M_below (d.M_bound hp) (below_alloc (Below.refl _ _) _)))
    have h3 : k = W.heap.size := by simpa [Value.ownBlock] using he
    have := hk.2.2.1
    omega
theorem reps1 {α : Type} {d : Kd α} {w W : World} {x : α} {cs : List Value} (hM : MadeS d w W x cs) : Reps (d.M W w.heap.size (fun _ => True)) d.sz [x] cs := by
  have := Reps.snoc (Reps.none (d.M W w.heap.size (fun _ => True)) d.sz) hM (d.K_len (d.K_of_M hM))
  simpa using this
theorem reps2 {α : Type} {d : Kd α} {w W : World} {x y : α} {cs ds : List Value} (hM : MadeS d w W x cs) (hN : MadeS d w W y ds) : Reps (d.M W w.heap.size (fun _ => True)) d.sz [x, y] (cs ++ ds) := by
  have := Reps.snoc (reps1 hM) hN (d.K_len (d.K_of_M hN))
  simpa using this
theorem OwnS.one {α : Type} (d : Kd α) (e : Nat) {w W : World} {x : α} {cs : List Value} (hx : Ext w W) (hM : MadeS d w W x cs) : OwnS d e w (W.alloc (.cells cs.toArray e)) (.slice (some ⟨W.heap.size, 0, none⟩) 1 1) [x] := OwnS.lits d e hx (reps1 hM) (by simp) rfl
/-- A program of the call's own. -/
structure OwnP (w W : World) (p : Prg) (A0 : Option Addr) (c0 : Nat) (A1 : Option Addr) (c1 : Nat) : Prop where
  ty : OwnS kTyp 87 w W (.slice A0 p.types.length c0) p.types
  fu : OwnS kFc 51 w W (.slice A1 p.funcs.length c1) p.funcs
section
variable {w W : World} {p : Prg} {A0 A1 : Option Addr} {c0 c1 : Nat}
theorem OwnP.at_ (h : OwnP w W p A0 c0 A1 c1) : AtP W p A0 A1 := by
  obtain ⟨B0, d0, e0, _, g0⟩ := h.ty.reads
  obtain ⟨B1, d1, e1, _, g1⟩ := h.fu.reads
  injection e0 with e0
  injection e1 with e1
  subst e0 e1
  exact ⟨g0, g1⟩
theorem OwnP.ext (h : OwnP w W p A0 c0 A1 c1) {W' : World} (he : Ext W W') : OwnP w W' p A0 c0 A1 c1 := ⟨h.ty.ext he, h.fu.ext he⟩
theorem OwnP.elder (h : OwnP w W p A0 c0 A1 c1) {a : Addr} (ha : a.block < w.heap.size) (u : Value) : OwnP w (W.setCell a u) p A0 c0 A1 c1 := ⟨h.ty.elder ha u, h.fu.elder ha u⟩
theorem OwnP.lower (h : OwnP w W p A0 c0 A1 c1) {w0 : World} (he : Ext w0 w) : OwnP w0 W p A0 c0 A1 c1 := ⟨h.ty.lower he, h.fu.lower he⟩
end
def dIns : Ins := ⟨1, 0, 0, 0, 0, [], []⟩
def dTs : List Typ := [⟨1, 0, 0, []⟩, ⟨3, 0, 0, []⟩]
def dBs (l : List En) : List Blk := l.map fun e => ⟨[dIns], e⟩
/-- a program of one function with such ends -/
def dOf (l : List En) : Prg := ⟨dTs, [⟨1, dBs l⟩]⟩
theorem dBs_snoc (l : List En) (k : Nat) (h : k < l.length) : dBs (l.take (k + 1)) = dBs (l.take k) ++ [⟨[dIns], l[k]⟩] := by unfold dBs; rw [take_snoc l k h, List.map_append]; rfl
theorem kIns_lit (w W : World) : MadeS kIns w W dIns [.int .u8 1, .int .i64 0, .int .i64 0, .int .i64 0, .int .i64 0, .slice none 0 0, .slice none 0 0] := kIns_mkM _ _ _ dIns (Kd.R_nil _ _ _ _ _) (Kd.R_nil _ _ _ _ _)

set_option maxRecDepth 100000 in
set_option maxHeartbeats 4000000 in
theorem of10_c (l : List En) (A : Option Addr) (c : Nat) (w : World) (hl : l.length ≤ 16) (hA : Kd.C kEn w A l.length l) :
    Calls Tryd.prog 37 #[.slice A l.length c] w fun e w' => ∃ A0 A1 c0 c1, e = .returned (vPrg (dOf l) A0 c0 A1 c1) ∧ OwnP w w' (dOf l) A0 c0 A1 c1 ∧ Ext w w' := by
  have HA := Aside0.mk hA
  clear hA
  go_enter Tryd.func37, Tryd.ntmps37
  go_upto_region 1 with (fail)
  have hb0 := heap_new w (.cells #[.slice none 0 0, .slice none 0 0] 25)
  (have e_w_W0 : Ext w (w.alloc (.cells #[.slice none 0 0, .slice none 0 0] 25)) := (by repeat (first | assumption | exact Ext.refl _ | exact Ext.of_xt _ _ | apply Ext.alloc | apply Ext.drewN | apply Ext.drew)); generalize w.alloc (.cells #[.slice none 0 0, .slice none 0 0] 25) = W0 at e_w_W0 hb0 ⊢)
  go_wp2
  go_loopw [3, 4] (fun s i wr => ∃ (k : Nat) (v : Value), k ≤ l.length ∧ i = .int .i64 k ∧ v = s ∧ Aside0 (OwnS kBlk 48 W0 wr v (dBs (l.take k))) ∧ Ext W0 wr) (fun _ i _ => l.length - (intOf i).toNat)
  case atStart => exact ⟨0, _, by omega, rfl, rfl, ⟨OwnS.nil _ _ _ _⟩, Ext.refl _⟩
  case round =>
    obtain ⟨k, v, hk, rfl, rfl, HO, e_W0_wr⟩ := hrel
    by_cases hlt : k < l.length
    case pos =>
      have HS := Aside0.mk (dBs_snoc l k hlt)
      obtain ⟨ad, rfl, a0, a1, a2, a3⟩ := at_En ((e_w_W0.trans e_W0_wr).C HA.out) k hlt
      generalize l[k] = x at *
      have hln : (dBs (l.take k)).length ≤ 1000000000 := by unfold dBs; rw [List.length_map, List.length_take]; omega
      have e_W0_wi : Ext W0 (wr.alloc (.cells #[.int .u8 1, .int .i64 0, .int .i64 0, .int .i64 0, .int .i64 0, .slice none 0 0, .slice none 0 0] 69)) := (by repeat (first | assumption | exact Ext.refl _ | exact Ext.of_xt _ _ | apply Ext.alloc | apply Ext.drewN | apply Ext.drew))
      have HOi := Aside0.mk (HO.out.ext (show Ext wr (wr.alloc (.cells #[.int .u8 1, .int .i64 0, .int .i64 0, .int .i64 0, .int .i64 0, .slice none 0 0, .slice none 0 0] 69)) from Ext.alloc (Ext.refl _) _))
      have HM := Aside0.mk (kBlk_mkM _ W0.heap.size (fun _ => True) ⟨[dIns], x⟩ (OwnS.one kIns 69 e_W0_wr (kIns_lit W0 wr)))
      go_wp2_with (at_builtin; refine app_el kBlk Tryd.underlying49 infoBlkD rfl (by decide) (by omega) (by omega) (by decide) (y := ⟨[dIns], x⟩) (cs := [.slice (some ⟨wr.heap.size, 0, none⟩) 1 1, .int .u8 x.kind, .int .i64 x.a, .int .i64 x.to, .int .i64 x.els]) rfl rfl rfl (by go_simp) HOi.out HM.out e_W0_wi hln ?_; intro v3 w4 hv3 hw4 _ _)
      have HV3 := Aside0.mk hv3
      clear hv3
      go_roundw
      case rel => exact ⟨k + 1, _, by omega, by go_num, rfl, ⟨by rw [HS.out]; exact HV3.out⟩, hw4⟩
      case measure => simp [intOf]; omega
    case neg =>
      obtain rfl : k = l.length := by omega
      have HB : Aside0 (OwnS kBlk 48 W0 wr v (dBs l)) := ⟨by have := HO.out; rwa [List.take_length] at this⟩
      clear HO
      obtain ⟨bA, bc, rfl, hbl, hbC⟩ := HB.out.reads
      have hdl : (dBs l).length = l.length := by unfold dBs; rw [List.length_map]
      have hbw := e_W0_wr.blk hb0
      have hb2 : ∀ o1 o2, ((wr.alloc o1).alloc o2).heap[w.heap.size]? = some (.cells #[.slice none 0 0, .slice none 0 0] 25 (0, 0)) := fun o1 o2 => (Ext.alloc (Ext.alloc (Ext.refl wr) o1) o2).blk hbw
      have k0 : ∀ o1 o2, ((wr.alloc o1).alloc o2).cell? ⟨w.heap.size, 0, none⟩ = some (.slice none 0 0) := fun o1 o2 => blk_cell (hb2 o1 o2) 0
      have k1 : ∀ o1 o2, ((wr.alloc o1).alloc o2).cell? ⟨w.heap.size, 1, none⟩ = some (.slice none 0 0) := fun o1 o2 => blk_cell (hb2 o1 o2) 1
      have f0 : ∀ o1 o2, ((wr.alloc o1).alloc o2).frozen? ⟨w.heap.size, 0, none⟩ = false := fun o1 o2 => blk_frozen (hb2 o1 o2) 0
      have f1 : ∀ o1 o2, ((wr.alloc o1).alloc o2).frozen? ⟨w.heap.size, 1, none⟩ = false := fun o1 o2 => blk_frozen (hb2 o1 o2) 1
      have HB2 := Aside0.mk hb2
      clear hb2
      have hgl : w.heap.size < W0.heap.size := blk_lt hb0
      have HBW := Aside0.mk hbw
      have HT1 := Aside0.mk (heap_new wr (.cells #[.int .u8 1, .int .i64 0, .int .i64 0, .slice none 0 0, .int .u8 3, .int .i64 0, .int .i64 0, .slice none 0 0] 87))
      have HDL := Aside0.mk hdl
      rw [hdl]
      clear hbw hb0 hbC hbl hdl
      go_wp2_with fail
      have e_wr_V2 : Ext wr ((wr.alloc (.cells #[.int .u8 1, .int .i64 0, .int .i64 0, .slice none 0 0, .int .u8 3, .int .i64 0, .int .i64 0, .slice none 0 0] 87)).alloc (.cells #[.int .i64 1, .slice bA l.length bc] 51)) := Ext.alloc (Ext.alloc (Ext.refl wr) _) _
      have hP : OwnP W0 ((wr.alloc (.cells #[.int .u8 1, .int .i64 0, .int .i64 0, .slice none 0 0, .int .u8 3, .int .i64 0, .int .i64 0, .slice none 0 0] 87)).alloc (.cells #[.int .i64 1, .slice bA l.length bc] 51)) (dOf l) (some ⟨wr.heap.size, 0, none⟩) 2 (some ⟨wr.heap.size + 1, 0, none⟩) 1 := by
        refine ⟨(OwnS.lits kTyp 87 (xs := dTs) (cs := [.int .u8 1, .int .i64 0, .int .i64 0, .slice none 0 0, .int .u8 3, .int .i64 0, .int .i64 0, .slice none 0 0]) e_W0_wr (reps2 (d := kTyp) (x := ⟨1, 0, 0, []⟩) (y := ⟨3, 0, 0, []⟩) (cs := [.int .u8 1, .int .i64 0, .int .i64 0, .slice none 0 0]) (ds := [.int .u8 3, .int .i64 0, .int .i64 0, .slice none 0 0]) (kTyp_mkM _ _ _ _ (Kd.R_nil _ _ _ _ _)) (kTyp_mkM _ _ _ _ (Kd.R_nil _ _ _ _ _))) (by simp [dTs]) rfl).ext (Ext.alloc (Ext.refl _) _), ?_⟩
        refine OwnS.lits kFc 51 (xs := [(⟨1, dBs l⟩ : Fc)]) (cs := [.int .i64 1, .slice bA l.length bc]) (Ext.alloc e_W0_wr _) (reps1 (kFc_mkM _ _ _ (⟨1, dBs l⟩ : Fc) ?_)) (by simp) (by simp)
        rw [← HDL.out]
        exact HB.out.ext (Ext.alloc (Ext.refl _) _)
      have hb2 := HB2.out (.cells #[.int .u8 1, .int .i64 0, .int .i64 0, .slice none 0 0, .int .u8 3, .int .i64 0, .int .i64 0, .slice none 0 0] 87) (.cells #[.int .i64 1, .slice bA l.length bc] 51)
      have e_w_V2 := e_w_W0.trans (e_W0_wr.trans e_wr_V2)
      clear k0 k1 f0 f1 HB2 HBW HT1
      generalize (wr.alloc (.cells #[.int .u8 1, .int .i64 0, .int .i64 0, .slice none 0 0, .int .u8 3, .int .i64 0, .int .i64 0, .slice none 0 0] 87)).alloc (.cells #[.int .i64 1, .slice bA l.length bc] 51) = V2 at *
      have hb3 := blk_set (blk_set hb2 0 (.slice (some ⟨wr.heap.size, 0, none⟩) 2 2)) 1 (.slice (some ⟨wr.heap.size + 1, 0, none⟩) 1 1)
      have hP3 := ((hP.elder (a := ⟨w.heap.size, 0, none⟩) hgl (.slice (some ⟨wr.heap.size, 0, none⟩) 2 2)).elder (a := ⟨w.heap.size, 1, none⟩) hgl (.slice (some ⟨wr.heap.size + 1, 0, none⟩) 1 1)).lower e_w_W0
      have e_w_V3 := Ext.set (Ext.set e_w_V2 (p := ⟨w.heap.size, 0, none⟩) (Nat.le_refl _) (.slice (some ⟨wr.heap.size, 0, none⟩) 2 2)) (p := ⟨w.heap.size, 1, none⟩) (Nat.le_refl _) (.slice (some ⟨wr.heap.size + 1, 0, none⟩) 1 1)
      refine bodyPost_ret (v := vPrg (dOf l) (some ⟨wr.heap.size, 0, none⟩) 2 (some ⟨wr.heap.size + 1, 0, none⟩) 1) ?_ rfl ⟨_, _, _, _, rfl, hP3, e_w_V3⟩
      exact results_cell_row (d := _) rfl _ _ w.heap.size _ #[.slice (some ⟨wr.heap.size, 0, none⟩) 2 2, .slice (some ⟨wr.heap.size + 1, 0, none⟩) 1 1] _ (by rfl) hb3 Tryd.underlying25 rfl (by kernel_rfl)
end Go.Proofs.YtjbnabjjbofhjaaDoor.Fes
