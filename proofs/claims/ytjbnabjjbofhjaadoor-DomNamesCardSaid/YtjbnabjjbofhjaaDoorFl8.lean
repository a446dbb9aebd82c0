/- Package flow: what is reached, sorted by the library. -/
import Derived.Test.YtjbnabjjbofhjaaDoorFl7
import Derived.Test.YtjbnabjjbofhjaaDoorPr
import Derived.Test.YtjbnabjjbofhjaaDoorShelf
import Derived.Sort.OwnSortedInts
set_option linter.unusedVariables false
set_option linter.unusedSimpArgs false
namespace Go.Proofs.YtjbnabjjbofhjaaDoor.Fes
open Go.RowKit Go.Shelf Go.Sort Go.Proofs.YtjbnabjjbofhjaaDoorW.PrintWords

set_option maxHeartbeats 1000000 in
theorem sort_c (w W : World) (g cap : Nat) (cur : Array Value) (zs : List Int) (hx : Ext w W) (hbase : w.heap.size ≤ g) (hgb : W.heap[g]? = some (.cells cur 3 (0, 0))) (r1 : zs.length ≤ cap) (r2 : cap ≤ maxLen) (r3 : cur.size = cap * 1) (r4 : ∀ j, j < zs.length → W.cell? ⟨g, 0 + j, none⟩ = some (.int .i64 (zs[j]?.getD 0))) (hz : zs.length ≤ 20) :
    Calls Tryd.prog 90 #[.slice (some ⟨g, 0, none⟩) zs.length cap] W fun e w' => e = .returned (.tuple #[]) ∧ OwnI w w' (.slice (some ⟨g, 0, none⟩) zs.length cap) (srt zs) ∧ Ext w w' := by
  have hS : Calls Tryd.prog 90 #[.slice (some ⟨g, 0, none⟩) zs.length cap] W _ := Any.slices_Sort_int shelf189 g 0 cap zs W (fun j hj => by
    have hj' : j < zs.length := by simpa using hj
    exact ⟨by rw [r4 j hj']; simp [hj'], by simp [World.frozen?, hgb]⟩) (Array.getElem?_eq_some_iff.1 hgb).1 (by omega)
  refine hS.mono ?_
  rintro e w' ⟨rfl, nn, os, rfl⟩
  have hrow := ownsRow_sortedI (w := W) (n := nn) (os := os) (ts := srt zs) (ss := zs) (srt_len zs) hbase hgb r1 r2 r3
  refine ⟨rfl, ?_, ⟨hx.b.grown (grownBy_sortedI (srt zs).toArray) hx.size (fun j hj => by cases hj; exact hbase)⟩⟩
  refine Kd.R_of_own ?_ (fun _ _ => trivial)
  have := srt_len zs
  rw [srt_len]
  simpa [encs, nums, srt] using hrow

set_option maxHeartbeats 1000000 in
theorem sorted_c (Bs : Nat) (sv : Value) (zs : List Int) (hz : zs.length ≤ 20) (hne : 0 < zs.length) (w : World) (hBs : Bs < w.heap.size) (hc : w.cell? ⟨Bs, 0, none⟩ = some sv) (hI : Ints w.heap.size w.heap.size w sv zs) :
    Calls Tryd.prog 64 #[.func (.func 91) #[] #[.pointer (some ⟨Bs, 0, none⟩)]] w fun e w' => ∃ v, e = .returned v ∧ OwnI w w' v (srt zs) ∧ Ext w w' := by
  have HC := Aside0.mk (collect_c Bs sv zs hz w hBs hc hI)
  clear hc hI hBs
  go_enter Tryd.func64, Tryd.ntmps64
  go_wp2_with fail
  refine HC.out.mono ?_
  rintro _ w1 ⟨v, rfl, hv, hx⟩
  obtain ⟨inner, ho⟩ := Kd.R_own hv
  have HIv := Ints.own hv (Bx := w1.heap.size) (by
    intro e
    rcases ho.2 with ⟨rfl, _⟩ | ⟨g, cap, cur, rfl, _, hgb, _⟩
    · cases e
    · have := blk_lt hgb
      obtain rfl : g = w1.heap.size := by simpa [Value.ownBlock] using e
      omega)
  rcases ho.2 with ⟨rfl, h0⟩ | ⟨g, cap, cur, rfl, hbase, hgb, r1, r2, r3, r5⟩
  · omega
  have r4 : ∀ j, j < zs.length → w1.cell? ⟨g, 0 + j, none⟩ = some (.int .i64 (zs[j]?.getD 0)) := by
    rcases HIv with ⟨e, _⟩ | ⟨b, off, cap', e, _, hcs⟩
    · cases e
    · simp only [Value.slice.injEq, Option.some.injEq, Addr.mk.injEq] at e
      obtain ⟨⟨rfl, rfl, _⟩, _⟩ := e
      exact hcs
  clear HIv
  have HX := Aside0.mk hx
  have HS := Aside0.mk (sort_c w w1 g cap cur zs hx hbase hgb r1 r2 r3 r4 hz)
  clear r5 hv hx ho hgb r1 r2 r3 r4 HC
  go_wp2_with fail
  refine HS.out.mono ?_
  rintro _ w2 ⟨rfl, hv2, hx2⟩
  have HV := Aside0.mk hv2
  have HX2 := Aside0.mk hx2
  clear hv2 hx2 HS
  generalize zs.length = N at *
  go_wp2
  go_ret
  exact ⟨_, rfl, HV.out, HX2.out⟩

section
variable (p : Prg) (f : Int) (A0 A1 : Option Addr) (c0 c1 : Nat) (w : World)
set_option maxHeartbeats 2000000 in
theorem flReach_c (hT : Tab w) (hs : SmP p) (hw : WfP p) (hp : AtP w p A0 A1) :
    Calls Tryd.prog 30 #[vPrg p A0 c0 A1 c1, .int .i64 f] w fun e w' => ∃ v, e = .returned (.tuple #[v, .int .i64 (flE p f 0)]) ∧ OwnI w w' v (reP p f) ∧ Ext w w' := by
  have HT := Aside0.mk hT
  have HP := Aside0.mk hp
  have HS := Aside0.mk hs
  have HW := Aside0.mk hw
  clear hT hp hs hw
  unfold vPrg
  go_enter Tryd.func30, Tryd.ntmps30
  go_upto_region 1 with (fail)
  (have e_w_W0 : Ext w (w.alloc (.cells #[.slice A0 p.types.length c0, .slice A1 p.funcs.length c1] 25)) := (by repeat (first | assumption | exact Ext.refl _ | exact Ext.of_xt _ _ | apply Ext.alloc | apply Ext.drewN | apply Ext.drew)); have b_W0_0_0 := stays (w := w.alloc (.cells #[.slice A0 p.types.length c0, .slice A1 p.funcs.length c1] 25)) (a := ⟨w.heap.size, 0, none⟩) (by first | (go_simp; rfl) | rfl); have b_W0_0_1 := stays (w := w.alloc (.cells #[.slice A0 p.types.length c0, .slice A1 p.funcs.length c1] 25)) (a := ⟨w.heap.size, 1, none⟩) (by first | (go_simp; rfl) | rfl); generalize w.alloc (.cells #[.slice A0 p.types.length c0, .slice A1 p.funcs.length c1] 25) = W0 at e_w_W0 b_W0_0_0 b_W0_0_1 ⊢)
  go_wp2_with fail
  by_cases h0 : flE p f 0 = 0
  · refine (flAsk_yes p f 0 A0 A1 c0 c1 _ h0 (HT.out.ext (by repeat (first | assumption | exact Ext.refl _ | exact Ext.of_xt _ _ | apply Ext.alloc | apply Ext.drewN | apply Ext.drew))) HS.out HW.out (HP.out.ext (by repeat (first | assumption | exact Ext.refl _ | exact Ext.of_xt _ _ | apply Ext.alloc | apply Ext.drewN | apply Ext.drew)))).mono ?_
    rintro _ w1 ⟨B1, d1, rfl, hC, hcl, hx_⟩
    have e_w_w1 : Ext w w1 := Ext.trans (by repeat (first | assumption | exact Ext.refl _ | exact Ext.of_xt _ _ | apply Ext.alloc | apply Ext.drewN | apply Ext.drew)) hx_
    have HC := Aside0.mk (hx_.C hC)
    obtain ⟨_, hf01, _, hb1⟩ := flE_zero h0
    have hbl := blocks_le HS.out hf01.1 hf01.2
    have HE := Aside0.mk (flE_edge h0)
    have HX := Aside0.mk (show reP p f = srt (castL (gone (toN (fnP p f).blocks) (fnP p f).blocks.length [0])) by unfold reP; rw [if_pos h0])
    have H0 := Aside0.mk h0
    clear hC hx_ hf01 h0
    generalize (fnP p f).blocks = bs at *
    go_upto_region 4 with (fail)
    have hr1 : Kd.C (Kd.int .i64) (w1.alloc (.cells #[.int .i64 0] 3)) (some ⟨w1.heap.size, 0, none⟩) [0].length (castL [0]) := C_litI [0] rfl (by simp) 3
    have e_w1_wA : Ext w1 (w1.alloc (.cells #[.int .i64 0] 3)) := (by repeat (first | assumption | exact Ext.refl _ | exact Ext.of_xt _ _ | apply Ext.alloc | apply Ext.drewN | apply Ext.drew))
    have HR1 := Aside0.mk hr1
    have HCA := Aside0.mk (e_w1_wA.C HC.out)
    have hgl : (castL (gone (toN bs) bs.length [0])).length ≤ 20 ∧ 0 < (castL (gone (toN bs) bs.length [0])).length := by
      have hg := gone_spec (toN bs) bs.length HE.out.inside [0] (fun b hb => by obtain rfl : b = 0 := by simpa using hb
                                                                                omega)
      have := nodup_le bs.length _ hg.nodup hg.small
      have hm : 0 ∈ gone (toN bs) bs.length [0] := (mem_gone _ _ HE.out.inside [0] (by intro b hb; obtain rfl : b = 0 := by simpa using hb
                                                                                       omega) 0).2 ⟨0, by simp, .here trivial⟩
      have := List.length_pos_of_mem hm
      unfold castL
      rw [List.length_map]
      omega
    clear hr1
    go_wp2_with fail
    refine (from_c bs HE.out hbl B1 d1 [0] (fun b hb => by obtain rfl : b = 0 := by simpa using hb
                                                           omega) (by simp) (some ⟨w1.heap.size, 0, none⟩) 1 _ HCA.out HR1.out).mono ?_
    rintro _ w3 ⟨v3, rfl, hv3, hx_⟩
    have e_w1_w3 := e_w1_wA.trans hx_
    have e_w_w3 : Ext w w3 := e_w_w1.trans e_w1_w3
    have HI3 := Aside0.mk (Ints.own hv3 (Bx := w3.heap.size) (by
      intro e
      obtain ⟨inner, ho⟩ := Kd.R_own hv3
      rcases ho.2 with ⟨rfl, _⟩ | ⟨g, cap, cur, rfl, _, hgb, _⟩
      · cases e
      · have := blk_lt hgb
        obtain rfl : g = w3.heap.size := by simpa [Value.ownBlock] using e
        omega))
    obtain ⟨A3, N3, c3, rfl⟩ := hv3.isSlice
    clear hx_ hv3 HR1 HCA e_w1_wA
    generalize hG : castL (gone (toN bs) bs.length [0]) = zs at *
    go_wp2_with fail
    refine (values_c A3 N3 c3 w3).mono ?_
    rintro _ _ ⟨rfl, rfl⟩
    have e_w3_w4 : Ext w3 (w3.alloc (.cells #[.slice A3 N3 c3] 28)) := (by repeat (first | assumption | exact Ext.refl _ | exact Ext.of_xt _ _ | apply Ext.alloc | apply Ext.drewN | apply Ext.drew))
    have HV4 := Aside0.mk (HI3.out.below e_w3_w4.b)
    have hcb : (w3.alloc (.cells #[.slice A3 N3 c3] 28)).cell? ⟨w3.heap.size, 0, none⟩ = some (.slice A3 N3 c3) := (Boxed.new w3 28 (.slice A3 N3 c3)).cell
    have hsz4 : w3.heap.size < (w3.alloc (.cells #[.slice A3 N3 c3] 28)).heap.size := by simp
    have HCB := Aside0.mk hcb
    have e_w_w4 := e_w_w3.trans e_w3_w4
    have HI4 := Aside0.mk (show Ints (w3.alloc (.cells #[.slice A3 N3 c3] 28)).heap.size (w3.alloc (.cells #[.slice A3 N3 c3] 28)).heap.size (w3.alloc (.cells #[.slice A3 N3 c3] 28)) (.slice A3 N3 c3) zs by
      rcases HV4.out with h | ⟨b, off, cap, e, hb, hcs⟩
      · exact .inl h
      · exact .inr ⟨b, off, cap, e, ⟨by omega, by omega⟩, hcs⟩)
    clear hcb e_w3_w4 HV4 HI3
    generalize w3.alloc (.cells #[.slice A3 N3 c3] 28) = w4 at *
    go_wp2_with fail
    refine (sorted_c w3.heap.size (.slice A3 N3 c3) zs hgl.1 hgl.2 w4 hsz4 HCB.out HI4.out).mono ?_
    rintro _ w5 ⟨v5, rfl, hv5, hx5⟩
    have HV5 := Aside0.mk hv5
    have HX5 := Aside0.mk hx5
    obtain ⟨A5, N5, c5, rfl⟩ := hv5.isSlice
    clear hv5 hx5
    go_wp2
    go_ret2
    refine ⟨.slice A5 N5 c5, ret_vi H0.out.symm, ?_, e_w_w4.trans HX5.out⟩
    rw [HX.out]
    exact OwnS.lower HV5.out e_w_w4
  · refine (flAsk_no p f 0 A0 A1 c0 c1 _ h0 (HT.out.ext (by repeat (first | assumption | exact Ext.refl _ | exact Ext.of_xt _ _ | apply Ext.alloc | apply Ext.drewN | apply Ext.drew))) HS.out HW.out (HP.out.ext (by repeat (first | assumption | exact Ext.refl _ | exact Ext.of_xt _ _ | apply Ext.alloc | apply Ext.drewN | apply Ext.drew)))).mono ?_
    (rintro _ w1 ⟨rfl, hx_⟩; have e_w_w1 : Ext w w1 := Ext.trans (by repeat (first | assumption | exact Ext.refl _ | exact Ext.of_xt _ _ | apply Ext.alloc | apply Ext.drewN | apply Ext.drew)) hx_; have e_W0_w1 : Ext W0 w1 := Ext.trans (by repeat (first | assumption | exact Ext.refl _ | exact Ext.of_xt _ _ | apply Ext.alloc | apply Ext.drewN | apply Ext.drew)) hx_; clear hx_)
    have HX := Aside0.mk (show reP p f = [] by unfold reP; rw [if_neg h0])
    have hne : (flE p f 0 != 0) = true := by simp [h0]
    generalize hE : flE p f 0 = e at *
    have HE := Aside0.mk hE
    clear h0 hE
    go_wp2
    go_ret2
    exact ⟨.slice none 0 0, ret_vi HE.out.symm, by rw [HX.out]; exact OwnI.nil _ _, e_w_w1⟩
end
end Go.Proofs.YtjbnabjjbofhjaaDoor.Fes
