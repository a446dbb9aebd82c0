/- Layer 9's statements: what can be come to, as a statement finds it. -/
import Derived.Test.YtjbnabjjbofhjaaDoorFr
import Derived.Deep.RegionHeld3
set_option linter.unusedVariables false
set_option linter.unusedSimpArgs false
namespace Go.Proofs.YtjbnabjjbofhjaaDoor.Fes
open Go.RowKit Go.Proofs.YtjbnabjjbofhjaaDoorW.PrintWords

/-- The blocks that were found so far; of those before k all that they go to. -/
structure Seen (E : Nat → List Nat) (n a : Nat) (S : List Nat) (k : Nat) : Prop where
  nodup : S.Nodup
  small : ∀ x ∈ S, x < n
  come : ∀ x ∈ S, Rch E every a x
  has : a ∈ S
  shut : ∀ j (hj : j < S.length), j < k → ∀ c ∈ E S[j], c ∈ S
theorem Seen.start (E : Nat → List Nat) (n a : Nat) (h : a < n) : Seen E n a [a] 0 := ⟨by simp, by simpa using h, by intro x hx; obtain rfl : x = a := by simpa using hx
                                                                                                                     exact .here trivial, by simp, fun j hj h => absurd h (by omega)⟩
theorem Seen.len {E : Nat → List Nat} {n a : Nat} {S : List Nat} {k : Nat} (h : Seen E n a S k) : S.length ≤ n := nodup_le n S h.nodup h.small
theorem Seen.all {E : Nat → List Nat} {n a : Nat} {S : List Nat} {k : Nat} (hi : Inside E n) (ha : a < n) (h : Seen E n a S k) (hk : S.length ≤ k) (t : Nat) : S.contains t = (gone E n [a]).contains t := by
  rw [Bool.eq_iff_iff]
  simp only [List.contains_eq_mem, decide_eq_true_eq]
  rw [mem_gone E n hi [a] (by simpa using ha)]
  constructor
  · intro ht; exact ⟨a, by simp, h.come t ht⟩
  · rintro ⟨b, hb, hr⟩
    obtain rfl : b = a := by simpa using hb
    refine hr.closed (S := fun x => x ∈ S) h.has (fun x hx c hc _ => ?_)
    obtain ⟨j, hj, rfl⟩ := List.getElem_of_mem hx
    exact h.shut j hj (by omega) c hc
/-- .. within a round: of block k the first q that it goes to. -/
structure SeenI (E : Nat → List Nat) (n a : Nat) (S0 S : List Nat) (k q : Nat) : Prop where
  seen : Seen E n a S k
  pre : S0 <+: S
  part : ∀ (hk : k < S.length), ∀ c ∈ (E S[k]).take q, c ∈ S
theorem castL_len (l : List Nat) : (castL l).length = l.length := by simp [castL]
theorem castL_snoc (l : List Nat) (x : Nat) : castL (l ++ [x]) = castL l ++ [(x : Int)] := by simp [castL]
theorem castL_at (l : List Nat) (k : Nat) (h : k < l.length) : (castL l)[k]'(by rw [castL_len]; exact h) = (l[k] : Int) := by simp [castL]
theorem SeenI.start {E : Nat → List Nat} {n a : Nat} {S : List Nat} {k : Nat} (h : Seen E n a S k) : SeenI E n a S S k 0 := ⟨h, List.prefix_refl _, fun _ c hc => by simp at hc⟩
theorem SeenI.kept {E : Nat → List Nat} {n a : Nat} {S0 S : List Nat} {k q : Nat} (h : SeenI E n a S0 S k q) (hk : k < S.length) (hq : q < (E S[k]).length) (hc : (E S[k])[q] ∈ S) : SeenI E n a S0 S k (q + 1) := by
  refine ⟨h.seen, h.pre, fun _ c hcm => ?_⟩
  rw [take_snoc _ _ hq, List.mem_append] at hcm
  rcases hcm with hcm | hcm
  · exact h.part hk c hcm
  · obtain rfl : c = (E S[k])[q] := by simpa using hcm
    exact hc
theorem SeenI.more {E : Nat → List Nat} {n a : Nat} (hi : Inside E n) {S0 S : List Nat} {k q : Nat} (h : SeenI E n a S0 S k q) (hk : k < S.length) (hq : q < (E S[k]).length) (hc : (E S[k])[q] ∉ S) : SeenI E n a S0 (S ++ [(E S[k])[q]]) k (q + 1) := by
  have hcm : (E S[k])[q] ∈ E S[k] := List.getElem_mem hq
  have hks : S[k] ∈ S := List.getElem_mem hk
  refine ⟨⟨?_, ?_, ?_, ?_, ?_⟩, ?_, ?_⟩
  · rw [List.nodup_append]
    refine ⟨h.seen.nodup, by simp, ?_⟩
    intro x hx y hy e
    obtain rfl : y = (E S[k])[q] := by simpa using hy
    exact hc (e ▸ hx)
  · intro x hx
    rcases List.mem_append.1 hx with hx | hx
    · exact h.seen.small x hx
    · obtain rfl : x = (E S[k])[q] := by simpa using hx
      exact hi _ (h.seen.small _ hks) _ hcm
  · intro x hx
    rcases List.mem_append.1 hx with hx | hx
    · exact h.seen.come x hx
    · obtain rfl : x = (E S[k])[q] := by simpa using hx
      exact (h.seen.come _ hks).on hcm trivial
  · exact List.mem_append_left _ h.seen.has
  · intro j hj hjk c hcj
    have hjS : j < S.length := by omega
    rw [List.getElem_append_left hjS] at hcj
    exact List.mem_append_left _ (h.seen.shut j hjS hjk c hcj)
  · exact h.pre.trans (List.prefix_append _ _)
  · intro hk2 c hcq
    rw [List.getElem_append_left hk] at hcq
    rw [take_snoc _ _ hq, List.mem_append] at hcq
    rcases hcq with hcq | hcq
    · exact List.mem_append_left _ (h.part hk c hcq)
    · exact List.mem_append_right _ hcq
theorem SeenI.done {E : Nat → List Nat} {n a : Nat} {S0 S : List Nat} {k q : Nat} (h : SeenI E n a S0 S k q) (hk : k < S.length) (hq : (E S[k]).length ≤ q) : Seen E n a S (k + 1) := by
  refine ⟨h.seen.nodup, h.seen.small, h.seen.come, h.seen.has, fun j hj hjk c hc => ?_⟩
  rcases Nat.lt_or_ge j k with hjk' | hjk'
  · exact h.seen.shut j hj hjk' c hc
  · obtain rfl : j = k := by omega
    exact h.part hj c (by rw [List.take_of_length_le hq]; exact hc)

theorem SeenI.kept_ {E : Nat → List Nat} {n a : Nat} {S0 S : List Nat} {k q x : Nat} (h : SeenI E n a S0 S k q) (hk : k < S.length) (hx : S[k] = x) (hq : q < (E x).length) (hc : (E x)[q] ∈ S) : SeenI E n a S0 S k (q + 1) := by subst hx; exact h.kept hk hq hc
theorem SeenI.more_ {E : Nat → List Nat} {n a : Nat} (hi : Inside E n) {S0 S : List Nat} {k q x : Nat} (h : SeenI E n a S0 S k q) (hk : k < S.length) (hx : S[k] = x) (hq : q < (E x).length) (hc : (E x)[q] ∉ S) : SeenI E n a S0 (S ++ [(E x)[q]]) k (q + 1) := by subst hx; exact h.more hi hk hq hc
theorem SeenI.done_ {E : Nat → List Nat} {n a : Nat} {S0 S : List Nat} {k q x : Nat} (h : SeenI E n a S0 S k q) (hk : k < S.length) (hx : S[k] = x) (hq : (E x).length ≤ q) : Seen E n a S (k + 1) := by subst hx; exact h.done hk hq
theorem Stp.app {v v1 : Value} {W w1 : World} (hg : W.grownBy w1 v.ownBlock) (hl : v1.ownBlock = v.ownBlock ∨ ∃ b, v1.ownBlock = some b ∧ W.heap.size ≤ b) : Stp 0 0 v v1 W w1 := ⟨fun k hk _ _ hv => hg.block k hk hv, hl, hg.size⟩
theorem OwnI.len_le {w W : World} {v : Value} {S : List Nat} (h : OwnI w W v (castL S)) : ∃ A c, v = .slice A S.length c ∧ Kd.C (Kd.int .i64) W A (castL S).length (castL S) := by
  obtain ⟨A, c, he, _, hC⟩ := h.reads
  rw [castL_len] at he
  exact ⟨A, c, he, hC⟩

theorem among9_n (S : List Nat) (y : Nat) (A : Option Addr) (c : Nat) (w : World) (hA : Kd.C (Kd.int .i64) w A (castL S).length (castL S)) :
    Calls Tryd.prog 32 #[.slice A S.length c, .int .i64 y] w fun e w' => e = .returned (.bool (S.contains y)) ∧ w = w' := by
  have h := among9_c (castL S) y A c w hA
  rw [castL_len, contains_cast] at h
  exact h
set_option maxRecDepth 100000 in
set_option maxHeartbeats 4000000 in
theorem comes9_c (p : Prg) (f a t : Int) (A0 A1 : Option Addr) (c0 c1 : Nat) (w : World) (h0 : flE p f a = 0) (ht : 0 ≤ t) (hT : Tab w) (hs : SmP p) (hw : WfP p) (hp : AtP w p A0 A1) :
    Calls Tryd.prog 28 #[vPrg p A0 c0 A1 c1, .int .i64 f, .int .i64 a, .int .i64 t] w fun e w' => e = .returned (.bool ((gone (toN (fnP p f).blocks) (fnP p f).blocks.length [a.toNat]).contains t.toNat)) ∧ Ext w w' := by
  have HT := Aside0.mk hT
  have HP := Aside0.mk hp
  have HS := Aside0.mk hs
  have HW := Aside0.mk hw
  obtain ⟨hc, hf01, b0, b1⟩ := flE_zero h0
  have hbl := blocks_le hs hf01.1 hf01.2
  have HE := Aside0.mk (flE_edge h0)
  have HV : Aside0 (∀ x : Nat, x < (fnP p f).blocks.length → flE p f x = 0 ∧ nxP p f x = castL (toN (fnP p f).blocks x)) := ⟨fun x hx => by
    have hx0 : flE p f x = 0 := by unfold flE; rw [if_pos (flE_ask h0), belB_iff.2 ⟨by omega, by omega⟩]; rfl
    refine ⟨hx0, ?_⟩
    unfold nxP
    rw [if_pos hx0]
    have := HE.out.cast hx
    simpa [castL, List.getD_eq_getElem?_getD, hx] using this⟩
  obtain ⟨an, rfl⟩ := Int.eq_ofNat_of_zero_le b0
  obtain ⟨tn, rfl⟩ := Int.eq_ofNat_of_zero_le ht
  have han : an < (fnP p f).blocks.length := by omega
  simp only [Int.toNat_natCast]
  clear hT hp hs hw h0 hc hf01 b0 b1 ht
  generalize (fnP p f).blocks = bs at *
  unfold vPrg
  go_enter Tryd.func28, Tryd.ntmps28
  go_upto_region 1 with (fail)
  have hsz0 : 0 < (w.alloc (.cells #[.slice A0 p.types.length c0, .slice A1 p.funcs.length c1] 25)).heap.size := by simp only [World.size_alloc]; omega
  (have e_w_W0 : Ext w (w.alloc (.cells #[.slice A0 p.types.length c0, .slice A1 p.funcs.length c1] 25)) := (by repeat (first | assumption | exact Ext.refl _ | exact Ext.of_xt _ _ | apply Ext.alloc | apply Ext.drewN | apply Ext.drew)); have b_W0_0_0 := stays (w := w.alloc (.cells #[.slice A0 p.types.length c0, .slice A1 p.funcs.length c1] 25)) (a := ⟨w.heap.size, 0, none⟩) (by first | (go_simp; rfl) | rfl); have b_W0_0_1 := stays (w := w.alloc (.cells #[.slice A0 p.types.length c0, .slice A1 p.funcs.length c1] 25)) (a := ⟨w.heap.size, 1, none⟩) (by first | (go_simp; rfl) | rfl); generalize w.alloc (.cells #[.slice A0 p.types.length c0, .slice A1 p.funcs.length c1] 25) = W0 at e_w_W0 b_W0_0_0 b_W0_0_1 hsz0 ⊢)
  go_wp2
  have hO0 : OwnI W0 (W0.alloc (.cells #[.int .i64 an] 3)) (.slice (some ⟨W0.heap.size, 0, none⟩) 1 1) (castL [an]) := OwnI.lit (Ext.refl W0) [(an : Int)] (by simp)
  have HO0 := Aside0.mk hO0
  have e_W0_WA : Ext W0 (W0.alloc (.cells #[.int .i64 an] 3)) := (by repeat (first | assumption | exact Ext.refl _ | exact Ext.of_xt _ _ | apply Ext.alloc | apply Ext.drewN | apply Ext.drew))
  clear hO0
  generalize W0.alloc (.cells #[.int .i64 an] 3) = WA at HO0 e_W0_WA ⊢
  go_loopw [9, 10] (fun s i wr => ∃ (k : Nat) (S : List Nat) (v : Value), i = .int .i64 k ∧ v = s ∧ k ≤ S.length ∧ Aside0 (OwnI W0 wr v (castL S)) ∧ Aside0 (Seen (toN bs) bs.length an S k) ∧ Ext W0 wr) (fun _ i _ => 21 - (intOf i).toNat)
  case atStart => exact ⟨0, [an], _, rfl, rfl, by simp, HO0, ⟨Seen.start _ _ _ han⟩, e_W0_WA⟩
  case round =>
    obtain ⟨k, S, v, rfl, rfl, hkS, HO, HN, hx⟩ := hrel
    have hSl := HN.out.len
    obtain ⟨gA, gc, rfl, hgC⟩ := HO.out.len_le
    have HG := Aside0.mk hgC
    clear hgC
    by_cases hlt : k < S.length
    case neg =>
      have HF := Aside0.mk (HN.out.all HE.out.inside han (by omega) tn)
      go_wp2_with fail
      refine (among9_n S tn gA gc _ HG.out).mono ?_
      rintro _ _ ⟨rfl, rfl⟩
      rw [HF.out]
      go_wp2
      go_ret
      exact ⟨ret_bool (by rw [List.contains_eq_mem]), e_w_W0.trans hx⟩
    case pos =>
      have hk20 : k < 20 := by omega
      obtain ⟨ad, he_, a0⟩ := at_int HG.out k (by rw [castL_len]; exact hlt)
      rw [castL_at S k hlt] at a0
      subst he_
      have hsk := HN.out.small _ (List.getElem_mem hlt)
      obtain ⟨hE0, hN0⟩ := HV.out _ hsk
      have HE0 := Aside0.mk hE0
      have HN0 := Aside0.mk hN0
      clear hE0 hN0
      generalize hxk : S[k] = x at *
      have HXK := Aside0.mk hxk
      clear hxk
      go_upto_region 5 with (fail)
      go_region_held3 (fun W => Ext W0 W ∧ Ext wr W) (first | assumption | exact ⟨Ext.drew hx, Ext.drew (Ext.refl _)⟩ | exact ⟨by assumption, by assumption⟩) ((go_at_call 19; refine (flNext_c _ p f x A0 A1 c0 c1 (HT.out.ext (e_w_W0.trans (Ext.drew hx))) HS.out HW.out (HP.out.ext (e_w_W0.trans (Ext.drew hx)))).mono ?_; rintro _ w2 ⟨v2, rfl, hv2, hx2⟩; have e_W0_w2 : Ext W0 w2 := Ext.trans (Ext.drew hx) hx2; have e_wr_w2 : Ext wr w2 := Ext.trans (Ext.drew (Ext.refl _)) hx2; rw [HE0.out]; rw [HN0.out] at hv2; have HV2 := Aside0.mk hv2; clear hv2 hx2))
      have HSTP := Aside0.mk (Stp.ext (g := 0) (m := 0) (v := .slice (some ad) S.length gc) e_wr_w2)
      have HO2 := Aside0.mk (HO.out.ext e_wr_w2)
      have hg0 : 0 < wr.drew.heap.size := Nat.lt_of_lt_of_le hsz0 (Ext.drew hx).size
      have HVO := Aside0.mk (show ∀ b, (Value.slice (some ad) S.length gc).ownBlock = some b → b < wr.drew.heap.size from fun b hb => own_lt (Kd.R_own HO.out).choose_spec b hb)
      obtain ⟨A2, c2, he2, _⟩ := HV2.out.len_le
      subst he2
      have hxl : (toN bs x).length ≤ 2 := by
        have := toE_len (bs.getD x zBlk).en
        unfold toN
        rw [List.length_map]; exact this
      have hin := HE.out.inside
      have HIN := Aside0.mk hin
      clear hin a0 HG
      generalize wr.drew = wd at *
      generalize wr = wo at *
      go_wp2
      go_loopw [9, 13] (fun s i wq => ∃ (q : Nat) (S' : List Nat) (v' : Value), i = .int .i64 q ∧ v' = s ∧ q ≤ (toN bs x).length ∧ Aside0 (OwnI W0 wq v' (castL S')) ∧ Aside0 (SeenI (toN bs) bs.length an S S' k q) ∧ Ext W0 wq ∧ Aside0 (Stp 0 0 (.slice (some ad) S.length gc) v' w2 wq)) (fun _ i _ => (toN bs x).length - (intOf i).toNat)
      case atStart => exact ⟨0, S, _, rfl, rfl, by omega, HO2, ⟨SeenI.start HN.out⟩, e_W0_w2, ⟨Stp.refl _ _ _ _⟩⟩
      case round =>
        obtain ⟨q, S', v', rfl, rfl, hq, HO', HI', hx', HS'⟩ := hrel
        have hSl' := HI'.out.seen.len
        have hk' : k < S'.length := Nat.lt_of_lt_of_le hlt HI'.out.pre.length_le
        have HXK' := Aside0.mk ((HI'.out.pre.getElem hlt).symm.trans HXK.out)
        obtain ⟨gA', gc', rfl, hgC'⟩ := HO'.out.len_le
        have HG' := Aside0.mk hgC'
        obtain ⟨A2', c2', he2', hC2⟩ := (HV2.out.stp hg0 hg0 HVO.out HS'.out).len_le
        obtain ⟨rfl, rfl⟩ : A2 = A2' ∧ c2 = c2' := by simpa using he2'
        have HC2 := Aside0.mk hC2
        clear he2' hC2 hgC'
        by_cases hql : q < (toN bs x).length
        · obtain ⟨ad2, he_, y0⟩ := at_int HC2.out q (by rw [castL_len]; exact hql)
          rw [castL_at _ q hql] at y0
          subst he_
          have HK := Aside0.mk (fun h => HI'.out.kept_ hk' HXK'.out hql h)
          have HM := Aside0.mk (fun h => HI'.out.more_ HIN.out hk' HXK'.out hql h)
          generalize (toN bs x)[q] = y at *
          clear HC2
          go_wp2_with fail
          refine (among9_n S' y gA' gc' _ HG'.out).mono ?_
          rintro _ _ ⟨rfl, rfl⟩
          cases hys : S'.contains y with
          | true =>
            have hyS : y ∈ S' := by simpa using hys
            have HKK := Aside0.mk (HK.out hyS)
            clear hys hyS HM
            go_wp2
            go_roundw
            case rel => exact ⟨q + 1, S', _, by go_num, rfl, by omega, HO', HKK, hx', HS'⟩
            case measure => simp [intOf]; omega
          | false =>
            have hyS : y ∉ S' := by simpa using hys
            have HKK := Aside0.mk (HM.out hyS)
            have hcl : (castL S').length ≤ 1000000000 := by rw [castL_len]; omega
            clear hys hyS HK
            go_wp2_with (at_builtin; refine app_int rfl rfl rfl rfl HO'.out hx' hcl ?_; intro v3 w3 hv3 hx3 hg3 hl3)
            have HO3 := Aside0.mk (show OwnI W0 w3 v3 (castL (S' ++ [y])) by rw [castL_snoc]; exact hv3)
            have HS3 := Aside0.mk (HS'.out.trans (Stp.app hg3 hl3))
            clear hv3 hg3 hl3
            go_roundw
            case rel => exact ⟨q + 1, S' ++ [y], _, by go_num, rfl, by omega, HO3, HKK, hx3, HS3⟩
            case measure => simp [intOf]; omega
        · have HD := Aside0.mk (HI'.out.done_ hk' HXK'.out (by omega))
          clear HC2
          go_wp2
          go_roundw
          case rel => exact ⟨k + 1, S', _, by go_num, rfl, by omega, HO', HD, hx'⟩
          case measure => simp [intOf]; omega
end Go.Proofs.YtjbnabjjbofhjaaDoor.Fes
