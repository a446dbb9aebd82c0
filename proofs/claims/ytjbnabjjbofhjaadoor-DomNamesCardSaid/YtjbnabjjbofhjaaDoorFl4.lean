/- Package flow: what is gone through from some blocks on; whether a block lies on a round. -/
import Derived.Test.YtjbnabjjbofhjaaDoorFl3
set_option linter.unusedVariables false
set_option linter.unusedSimpArgs false
namespace Go.Proofs.YtjbnabjjbofhjaaDoor.Fes
open Go.RowKit Go.Proofs.YtjbnabjjbofhjaaDoorW.PrintWords

def castL (l : List Nat) : List Int := l.map fun x : Nat => (x : Int)
theorem undone_nil (n : Nat) : undone n [] ≤ n := by
  have := List.countP_le_length (p := fun x => !([] : List Nat).contains x) (l := List.range n)
  simp only [List.length_range] at this
  exact this

set_option maxRecDepth 100000 in
set_option maxHeartbeats 2000000 in
theorem from_c (bs : List Blk) (hE : EdgeOk bs) (hn : bs.length ≤ 20) (A : Option Addr) (c : Nat) (l : List Nat) (hl : ∀ b ∈ l, b < bs.length) (hm : l.length ≤ 1000000) (A1 : Option Addr) (c1 : Nat) (w : World)
    (hC : Kd.C kBlk w A bs.length bs) (hr : Kd.C (Kd.int .i64) w A1 l.length (castL l)) :
    Calls Tryd.prog 60 #[.slice A bs.length c, .slice A1 l.length c1] w fun e w' => ∃ v, e = .returned v ∧ OwnI w w' v (castL (gone (toN bs) bs.length l)) ∧ Ext w w' := by
  have HE := Aside0.mk hE
  have HC := Aside0.mk hC
  have HR := Aside0.mk hr
  have HL := Aside0.mk hl
  clear hE hC hr hl
  have hmm := @run_makeMap Tryd.prog
  go_enter Tryd.func60, Tryd.ntmps60
  go_wp2_with fail
  have HW := Aside0.mk (show Wk bs.length w ((w.alloc (.map #[] 0)).alloc (.cells #[.slice A bs.length c, .map (some w.heap.size), .slice none 0 0] 129)) (w.heap.size + 1) w.heap.size A bs.length c (.slice none 0 0) [] [] by
    refine ⟨?_, by omega, by omega, ⟨.map [], ?_, fun x => rfl⟩, ?_, OwnI.nil _ _, by simp, (by repeat (first | assumption | exact Ext.refl _ | exact Ext.of_xt _ _ | apply Ext.alloc | apply Ext.drewN | apply Ext.drew))⟩
    · have := heap_new (w.alloc (.map #[] 0)) (.cells #[.slice A bs.length c, .map (some w.heap.size), .slice none 0 0] 129)
      simpa using this
    · exact (World.ownsMap_made w Tryd.prog 3 (plainElem Tryd.prog 3)).kept (row := none) (grown_of_below (Ext.alloc (Ext.refl _) _).b none) (by simp)
    · have := undone_nil bs.length; simpa using this)
  generalize (w.alloc (.map #[] 0)).alloc (.cells #[.slice A bs.length c, .map (some w.heap.size), .slice none 0 0] 129) = W at HW ⊢
  have hu : undone bs.length [] < bs.length + 1 := Nat.lt_succ_of_le (undone_nil _)
  refine (each_c bs HE.out w (w.heap.size + 1) w.heap.size A c (bs.length + 1) (block_c bs HE.out hn w _ _ A c HC.out _) l A1 c1 W _ [] [] HW.out hu HL.out hm (fun W' v' hx _ => hx.C HR.out)).mono ?_
  rintro _ w1 ⟨rfl, v1, hW1, _⟩
  have c2 := blk_cell hW1.blk 2
  obtain ⟨A4, N4, c4, rfl⟩ := hW1.own.isSlice
  have HW1 := Aside0.mk hW1
  clear hW1
  go_wp2
  go_ret
  exact ⟨_, rfl, HW1.out.own, HW1.out.ext⟩

/-- whether a block lies on a round -/
def rdP (p : Prg) (f b : Int) : Bool := if flE p f b = 0 then (gone (toN (fnP p f).blocks) (fnP p f).blocks.length (toN (fnP p f).blocks b.toNat)).contains b.toNat else false
theorem contains_cast (l : List Nat) (b : Nat) : (castL l).contains (b : Int) = l.contains b := by
  rw [Bool.eq_iff_iff]
  simp only [castL, List.contains_eq_mem, decide_eq_true_eq, List.mem_map]
  constructor
  · rintro ⟨x, hx, he⟩
    obtain rfl : x = b := by omega
    exact hx
  · intro h; exact ⟨b, h, rfl⟩
theorem ret_bi {a b : Bool} {x y : Int} (h : a = b) (h2 : x = y) : Ending.returned (.tuple #[.bool a, .int .i64 x]) = .returned (.tuple #[.bool b, .int .i64 y]) := by rw [h, h2]
/-- a program's functions have edges within -/
theorem endB_edge {x : En} {r n : Int} (h : endB x r n = true) : ∀ c ∈ toE x, 0 ≤ c ∧ c < n := by
  intro c hc
  unfold endB at h
  unfold toE at hc
  by_cases h1 : x.kind = 1
  · rw [if_pos h1] at h hc
    simp only [Bool.and_eq_true] at h
    obtain rfl : c = x.to := by simpa using hc
    exact belB_iff.1 h.2
  · rw [if_neg h1] at h hc
    by_cases h2 : x.kind = 2
    · rw [if_pos h2] at h hc
      simp only [Bool.and_eq_true] at h
      split at hc
      · obtain rfl : c = x.to := by simpa using hc
        exact belB_iff.1 h.1.2
      · rcases List.mem_cons.1 hc with rfl | hc
        · exact belB_iff.1 h.1.2
        · obtain rfl : c = x.els := by simpa using hc
          exact belB_iff.1 h.2
    · rw [if_neg h2] at hc
      simp at hc
theorem funB_edge {p : Prg} {f : Fc} (h : funB p f = true) : EdgeOk f.blocks := by
  unfold funB at h
  simp only [Bool.and_eq_true] at h
  intro b hb c hc
  have h1 := List.all_eq_true.1 h.2 b hb
  unfold blkB at h1
  simp only [Bool.and_eq_true] at h1
  exact endB_edge h1.2 c hc
theorem flE_edge {p : Prg} {f b : Int} (h : flE p f b = 0) : EdgeOk (fnP p f).blocks := by
  obtain ⟨hc, ⟨f0, f1⟩, _, _⟩ := flE_zero h
  obtain ⟨k, rfl⟩ := Int.eq_ofNat_of_zero_le f0
  have hk : k < p.funcs.length := by omega
  rw [fnP_at hk]
  exact funB_edge (chkP_funB hc _ (List.getElem_mem hk))

set_option maxHeartbeats 2000000 in
theorem flRound_c (p : Prg) (f b : Int) (A0 A1 : Option Addr) (c0 c1 : Nat) (w : World) (hT : Tab w) (hs : SmP p) (hw : WfP p) (hp : AtP w p A0 A1) :
    Calls Tryd.prog 23 #[vPrg p A0 c0 A1 c1, .int .i64 f, .int .i64 b] w fun e w' => e = .returned (.tuple #[.bool (rdP p f b), .int .i64 (flE p f b)]) ∧ Ext w w' := by
  have HT := Aside0.mk hT
  have HP := Aside0.mk hp
  have HS := Aside0.mk hs
  have HW := Aside0.mk hw
  clear hT hp hs hw
  unfold vPrg
  go_enter Tryd.func23, Tryd.ntmps23
  go_upto_region 1 with (fail)
  (have e_w_W0 : Ext w (w.alloc (.cells #[.slice A0 p.types.length c0, .slice A1 p.funcs.length c1] 25)) := (by repeat (first | assumption | exact Ext.refl _ | exact Ext.of_xt _ _ | apply Ext.alloc | apply Ext.drewN | apply Ext.drew)); have b_W0_0_0 := stays (w := w.alloc (.cells #[.slice A0 p.types.length c0, .slice A1 p.funcs.length c1] 25)) (a := ⟨w.heap.size, 0, none⟩) (by first | (go_simp; rfl) | rfl); have b_W0_0_1 := stays (w := w.alloc (.cells #[.slice A0 p.types.length c0, .slice A1 p.funcs.length c1] 25)) (a := ⟨w.heap.size, 1, none⟩) (by first | (go_simp; rfl) | rfl); generalize w.alloc (.cells #[.slice A0 p.types.length c0, .slice A1 p.funcs.length c1] 25) = W0 at e_w_W0 b_W0_0_0 b_W0_0_1 ⊢)
  go_wp2_with fail
  by_cases h0 : flE p f b = 0
  · refine (flAsk_yes p f b A0 A1 c0 c1 _ h0 (HT.out.ext (by repeat (first | assumption | exact Ext.refl _ | exact Ext.of_xt _ _ | apply Ext.alloc | apply Ext.drewN | apply Ext.drew))) HS.out HW.out (HP.out.ext (by repeat (first | assumption | exact Ext.refl _ | exact Ext.of_xt _ _ | apply Ext.alloc | apply Ext.drewN | apply Ext.drew)))).mono ?_
    rintro _ w1 ⟨B1, d1, rfl, hC, hcl, hx_⟩
    have e_w_w1 : Ext w w1 := Ext.trans (by repeat (first | assumption | exact Ext.refl _ | exact Ext.of_xt _ _ | apply Ext.alloc | apply Ext.drewN | apply Ext.drew)) hx_
    have HC := Aside0.mk (hx_.C hC)
    obtain ⟨_, hf01, b0, b1⟩ := flE_zero h0
    have hbl := blocks_le HS.out hf01.1 hf01.2
    have HE := Aside0.mk (flE_edge h0)
    obtain ⟨k, rfl⟩ := Int.eq_ofNat_of_zero_le b0
    have HX := Aside0.mk (show rdP p f k = (gone (toN (fnP p f).blocks) (fnP p f).blocks.length (toN (fnP p f).blocks k)).contains k by unfold rdP; rw [if_pos h0]; rfl)
    have H0 := Aside0.mk h0
    have hk : k < (fnP p f).blocks.length := by omega
    clear hC hx_ h0 hf01 b0
    generalize (fnP p f).blocks = bs at *
    obtain ⟨bd, D0, d0, rfl, y0, y1, y2, y3, y4, ly, gy⟩ := at_Blk HC.out k hk
    have HT2 := Aside0.mk (HE.out.cast hk)
    have HLB := Aside0.mk (HE.out.inside k hk)
    clear ly gy
    generalize bs[k] = bl at *
    go_wp2_with fail
    refine (next_c _ bl.en).mono ?_
    rintro _ w2 ⟨v2, rfl, hv2, hx_⟩
    have htl := toE_len bl.en
    rw [HT2.out] at hv2 htl
    obtain ⟨gA, gc, rfl, hgl, hgC⟩ := hv2.reads
    have e_w1_w2 := hx_
    have HGC := Aside0.mk hgC
    rw [List.length_map] at hgl HGC htl ⊢
    clear hv2 hx_ hgC hgl
    go_wp2_with fail
    refine (from_c bs HE.out hbl _ d1 (toN bs k) HLB.out (by omega) gA gc w2 (e_w1_w2.C HC.out) HGC.out).mono ?_
    rintro _ w3 ⟨v3, rfl, hv3, hx_⟩
    obtain ⟨gB, gd, rfl, hgl, hgC⟩ := hv3.reads
    have e_w_w3 := (e_w_w1.trans e_w1_w2).trans hx_
    have HGB := Aside0.mk hgC
    clear hv3 hx_ hgC hgl
    go_wp2_with fail
    refine (cont_c _ _ (k : Int) gB gd HGB.out).mono ?_
    rintro _ _ ⟨rfl, rfl⟩
    go_wp2
    go_ret2
    exact ⟨ret_bi (by rw [HX.out, ← contains_cast, List.contains_eq_mem]) H0.out.symm, e_w_w3⟩
  · refine (flAsk_no p f b A0 A1 c0 c1 _ h0 (HT.out.ext (by repeat (first | assumption | exact Ext.refl _ | exact Ext.of_xt _ _ | apply Ext.alloc | apply Ext.drewN | apply Ext.drew))) HS.out HW.out (HP.out.ext (by repeat (first | assumption | exact Ext.refl _ | exact Ext.of_xt _ _ | apply Ext.alloc | apply Ext.drewN | apply Ext.drew)))).mono ?_
    (rintro _ w1 ⟨rfl, hx_⟩; have e_w_w1 : Ext w w1 := Ext.trans (by repeat (first | assumption | exact Ext.refl _ | exact Ext.of_xt _ _ | apply Ext.alloc | apply Ext.drewN | apply Ext.drew)) hx_; have e_W0_w1 : Ext W0 w1 := Ext.trans (by repeat (first | assumption | exact Ext.refl _ | exact Ext.of_xt _ _ | apply Ext.alloc | apply Ext.drewN | apply Ext.drew)) hx_; clear hx_)
    have HX := Aside0.mk (show rdP p f b = false by unfold rdP; rw [if_neg h0])
    have hne : (flE p f b != 0) = true := by simp [h0]
    generalize hE : flE p f b = e at *
    have HE := Aside0.mk hE
    clear h0 hE
    go_wp2
    go_ret2
    exact ⟨ret_bi HX.out.symm HE.out.symm, (by repeat (first | assumption | exact Ext.refl _ | exact Ext.of_xt _ _ | apply Ext.alloc | apply Ext.drewN | apply Ext.drew))⟩
end Go.Proofs.YtjbnabjjbofhjaaDoor.Fes
