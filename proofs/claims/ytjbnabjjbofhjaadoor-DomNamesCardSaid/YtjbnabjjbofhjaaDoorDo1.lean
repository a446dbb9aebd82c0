/- Package dom: the rulers' row in memory; the nearest one above two; whether one rules another one. -/
import Derived.Test.YtjbnabjjbofhjaaDoorPe
import Derived.Test.YtjbnabjjbofhjaaDoorFl2
set_option linter.unusedVariables false
set_option linter.unusedSimpArgs false
namespace Go.Proofs.YtjbnabjjbofhjaaDoor.Fes
open Go.RowKit Go.Proofs.YtjbnabjjbofhjaaDoorW.PrintWords

/-- The rulers' rows in memory: next, and order. -/
structure RuB (W : World) (g : Nat) (ns os : List Int) : Prop where
  blk : W.heap[g]? = some (.cells ((nums .i64 (ns ++ os)).toArray) 100 (0, 0))
  ln : ns.length = 16
  lo : os.length = 16
def nxF (ns : List Int) (b : Nat) : Int := ns.getD b (-1)
theorem nxF_at {ns : List Int} {b : Nat} (h : b < ns.length) : nxF ns b = ns[b] := by simp [nxF, List.getD_eq_getElem?_getD, h]
section
variable {W : World} {g : Nat} {ns os : List Int}
theorem RuB.ext (h : RuB W g ns os) {W' : World} (he : Ext W W') : RuB W' g ns os := ⟨he.blk h.blk, h.ln, h.lo⟩
theorem RuB.next (h : RuB W g ns os) {b : Nat} (hb : b < 16) : ∀ V, Ext W V → V.cell? ⟨g, b, none⟩ = some (.int .i64 (nxF ns b)) := by
  refine stays ?_
  rw [blk_cell h.blk b]
  have := h.ln
  simp only [nums, List.getElem?_toArray, List.getElem?_map]
  rw [List.getElem?_append_left (by omega), nxF_at (by omega), List.getElem?_eq_getElem (by omega)]
  rfl
theorem RuB.ord (h : RuB W g ns os) {b : Nat} (hb : b < 16) : ∀ V, Ext W V → V.cell? ⟨g, 16 + b, none⟩ = some (.int .i64 (nxF os b)) := by
  refine stays ?_
  rw [blk_cell h.blk (16 + b)]
  have := h.ln
  have := h.lo
  simp only [nums, List.getElem?_toArray, List.getElem?_map]
  rw [List.getElem?_append_right (by omega), show 16 + b - ns.length = b by omega, nxF_at (by omega), List.getElem?_eq_getElem (by omega)]
  rfl
theorem RuB.frozen (h : RuB W g ns os) (b : Nat) : W.frozen? ⟨g, b, none⟩ = false := blk_frozen h.blk b
end
/-- what the order's row says -/
def OrdS (E : Nat → List Nat) (od : Nat → Int) (os : List Int) : Prop := ∀ x, Rc E x → x < 16 ∧ nxF os x = od x

section
variable {E : Nat → List Nat} {od : Nat → Int}
structure MtA (E : Nat → List Nat) (nx : Nat → Int) (a b x y : Nat) : Prop where
  kx : nx x ≠ -1
  ky : nx y ≠ -1
  up : ∀ z, nx z ≠ -1 → ((Up nx a z ∧ Up nx b z) ↔ (Up nx x z ∧ Up nx y z))
theorem MtA.left {nx : Nat → Int} {a b x y : Nat} (N : Nums E od) (I : Doms E od nx) (h : MtA E nx a b x y) (hl : od y < od x) : ∃ c : Nat, nx x = (c : Int) ∧ MtA E nx a b c y ∧ od c < od x := by
  have hx0 : x ≠ 0 := by
    rintro rfl
    have := N.pos y (I.good y h.ky).1
    have := N.zero
    omega
  obtain ⟨c, hc, hn, hlt⟩ := (I.good x h.kx).2 hx0
  exact ⟨c, hc, ⟨hn, h.ky, fun z hz => (h.up z hz).trans (I.up_lt N h.kx h.ky hl hc z)⟩, hlt⟩
theorem MtA.swap {nx : Nat → Int} {a b x y : Nat} (h : MtA E nx a b x y) : MtA E nx b a y x := ⟨h.ky, h.kx, fun z hz => by rw [and_comm, h.up z hz, and_comm]⟩

set_option maxHeartbeats 4000000 in
theorem meet_c (N : Nums E od) (g : Nat) (ns os : List Int) (a b : Nat) (w : World) (hB : RuB w g ns os) (I : Doms E od (nxF ns)) (hO : OrdS E od os) (ha : nxF ns a ≠ -1) (hb : nxF ns b ≠ -1) :
    Calls Tryd.prog 107 #[.pointer (some ⟨g, 0, none⟩), .int .i64 a, .int .i64 b] w fun e w' => ∃ m : Nat, e = .returned (.int .i64 m) ∧ Meet2 (nxF ns) a b m ∧ Ext w w' := by
  have HB := Aside0.mk hB
  have HN := Aside0.mk N
  have HI := Aside0.mk I
  have HO := Aside0.mk hO
  have HS := Aside0.mk (show MtA E (nxF ns) a b a b from ⟨ha, hb, fun _ _ => Iff.rfl⟩)
  clear hB N I hO ha hb
  go_enter Tryd.func107, Tryd.ntmps107
  go_wp2
  go_loopw [1, 2] (fun i j wr => ∃ x y : Nat, i = .int .i64 x ∧ j = .int .i64 y ∧ Aside0 (MtA E (nxF ns) a b x y) ∧ Ext w wr) (fun i j _ => (od (intOf i).toNat + od (intOf j).toNat).toNat)
  case atStart => exact ⟨a, b, rfl, rfl, HS, Ext.refl _⟩
  case round =>
    obtain ⟨x, y, rfl, rfl, HM, e_w_wr⟩ := hrel
    by_cases hxy : x = y
    case pos =>
      subst hxy
      go_wp2
      go_ret
      exact ⟨x, rfl, ⟨HM.out.kx, fun z hz => (HM.out.up z hz).trans ⟨fun h => h.1, fun h => ⟨h, h⟩⟩⟩, e_w_wr⟩
    case neg =>
      have hne : ((x : Int) != (y : Int)) = true := by simp; omega
      have HX0 := Aside0.mk hxy
      clear hxy
      obtain ⟨wo, hwo⟩ : ∃ wo, wo = wr := ⟨_, rfl⟩
      rw [← hwo] at e_w_wr
      have e0 : Ext wo wr := by rw [hwo]; exact Ext.refl _
      clear hwo
      go_wp2
      go_loopw [1] (fun i wq => ∃ x' : Nat, i = .int .i64 x' ∧ Aside0 (MtA E (nxF ns) a b x' y ∧ (x' = x ∨ od x' < od x)) ∧ Ext wo wq) (fun i _ => (od (intOf i).toNat).toNat)
      case atStart => exact ⟨x, rfl, ⟨HM.out, .inl rfl⟩, e0⟩
      case round =>
        obtain ⟨x', rfl, HX, e_wo_wq⟩ := hrel
        have e_w_wq := e_w_wr.trans e_wo_wq
        have hBq := HB.out.ext e_w_wq
        obtain ⟨bx, ox⟩ := HO.out x' (HI.out.good x' HX.out.1.kx).1
        obtain ⟨by_, oy⟩ := HO.out y (HI.out.good y HX.out.1.ky).1
        have c1 := hBq.ord bx
        have c2 := hBq.ord by_
        have c3 := hBq.next bx
        rw [ox] at c1
        rw [oy] at c2
        have HBQ := Aside0.mk hBq
        clear hBq ox oy
        by_cases hl : od y < od x'
        · obtain ⟨c, hc, hM, hlt⟩ := HX.out.1.left HN.out HI.out hl
          rw [hc] at c3
          have HM2 := Aside0.mk hM
          have hpc := HN.out.pos c (HI.out.good c hM.kx).1
          have HLT := Aside0.mk hlt
          have hlx := HX.out.2
          have HRX := Aside0.mk (show c = x ∨ od c < od x by right; rcases hlx with rfl | h <;> omega)
          clear hM hc hlx
          generalize hox : od x' = ox' at *
          generalize od y = oy' at *
          have HOX := Aside0.mk hox
          clear hox
          go_wp2
          go_quiet (fail)
          go_wp2
          go_roundw
          case rel => exact ⟨c, rfl, ⟨HM2.out, HRX.out⟩, (by repeat (first | assumption | exact Ext.refl _ | exact Ext.of_xt _ _ | apply Ext.alloc | apply Ext.drewN | apply Ext.drew))⟩
          case measure => simp [intOf]; have h1 := HOX.out; have h2 := HLT.out; omega
        · have HL := Aside0.mk hl
          have hl2 : decide (od y < od x') = false := by simpa using hl
          clear hl c3
          have HM3 := Aside0.mk HX.out.1
          have HRX := Aside0.mk HX.out.2
          clear HX
          generalize hox : od x' = ox' at *
          generalize hoy : od y = oy' at *
          have HOX := Aside0.mk hox
          have HOY := Aside0.mk hoy
          clear hox hoy
          obtain ⟨wy, hwp⟩ : ∃ wy, wy = wr := ⟨_, rfl⟩
          have e_w_wy : Ext w wy := by rw [hwp]; exact e_w_wq
          have e1 : Ext wy wr := by rw [hwp]; exact Ext.refl _
          clear hwp
          go_wp2
          go_quiet (fail)
          go_wp2
          go_loopw [2] (fun j wz => ∃ y' : Nat, j = .int .i64 y' ∧ Aside0 (MtA E (nxF ns) a b x' y' ∧ (y' = y ∨ od y' < od y)) ∧ Ext wy wz) (fun j _ => (od (intOf j).toNat).toNat)
          case atStart => exact ⟨y, rfl, ⟨HM3.out, .inl rfl⟩, (by repeat (first | assumption | exact Ext.refl _ | exact Ext.of_xt _ _ | apply Ext.alloc | apply Ext.drewN | apply Ext.drew))⟩
          case round =>
            obtain ⟨y', rfl, HY, e_wp_wz⟩ := hrel
            have e_w_wz := e_w_wy.trans e_wp_wz
            have hBz := HB.out.ext e_w_wz
            obtain ⟨bx, ox⟩ := HO.out x' (HI.out.good x' HY.out.1.kx).1
            obtain ⟨by_, oy⟩ := HO.out y' (HI.out.good y' HY.out.1.ky).1
            have d1 := hBz.ord bx
            have d2 := hBz.ord by_
            have d3 := hBz.next by_
            rw [ox, HOX.out] at d1
            rw [oy] at d2
            clear hBz ox oy c1 c2
            by_cases hl : ox' < od y'
            · obtain ⟨c, hc, hM, hlt⟩ := HY.out.1.swap.left HN.out HI.out (by rw [HOX.out]; exact hl)
              rw [hc] at d3
              have HM4 := Aside0.mk hM.swap
              have hpc := HN.out.pos c (HI.out.good c hM.kx).1
              have HLT := Aside0.mk hlt
              have hlx := HY.out.2
              have HRY := Aside0.mk (show c = y ∨ od c < od y by right; rcases hlx with rfl | h <;> omega)
              clear hM hc hlx
              generalize hoz : od y' = oz' at *
              have HOZ := Aside0.mk hoz
              clear hoz
              go_wp2
              go_quiet (fail)
              go_wp2
              go_roundw
              case rel => exact ⟨c, rfl, ⟨HM4.out, HRY.out⟩, (by repeat (first | assumption | exact Ext.refl _ | exact Ext.of_xt _ _ | apply Ext.alloc | apply Ext.drewN | apply Ext.drew))⟩
              case measure => simp [intOf]; have h1 := HOZ.out; have h2 := HLT.out; omega
            · have hl3 : decide (ox' < od y') = false := by simpa using hl
              have HL3 := Aside0.mk hl
              clear hl d3
              have HM5 := Aside0.mk HY.out.1
              have HRY := Aside0.mk HY.out.2
              have HFIN := Aside0.mk (show max (od x' + od y') 0 < od x + od y by
                have h1 := HL.out
                have h2 := HL3.out
                have h3 := HRX.out
                have h4 := HRY.out
                have h5 := HOX.out
                have h6 := HOY.out
                have p1 := HN.out.pos x' (HI.out.good x' HM5.out.kx).1
                have p2 := HN.out.pos y' (HI.out.good y' HM5.out.ky).1
                have p3 := HN.out.pos x (HI.out.good x HM.out.kx).1
                have p4 := HN.out.pos y (HI.out.good y HM.out.ky).1
                have hinj := HN.out.inj x y (HI.out.good x HM.out.kx).1 (HI.out.good y HM.out.ky).1
                have h0 := HX0.out
                rcases h3 with rfl | h3
                · rcases h4 with rfl | h4
                  · exact absurd (hinj (by omega)) h0
                  · omega
                · rcases h4 with rfl | h4
                  · omega
                  · omega)
              clear HY
              generalize hoz : od y' = oz' at *
              have HOZ := Aside0.mk hoz
              clear hoz
              go_wp2
              go_quiet (fail)
              go_wp2
              go_roundw
              case rel => exact ⟨x', y', rfl, rfl, HM5, (by repeat (first | assumption | exact Ext.refl _ | exact Ext.of_xt _ _ | apply Ext.alloc | apply Ext.drewN | apply Ext.drew))⟩
              case measure => simp [intOf]; have h1 := HOZ.out; have h2 := HFIN.out; omega

def RulPost (nx : Nat → Int) (a b : Nat) (w : World) (e : Ending) (w' : World) : Prop := ∃ r : Bool, e = .returned (.bool r) ∧ (r = true ↔ Up nx b a) ∧ Ext w w'
set_option maxHeartbeats 4000000 in
theorem rules_c (N : Nums E od) (g : Nat) (ns os : List Int) (a b : Nat) (w : World) (hB : RuB w g ns os) (I : Doms E od (nxF ns)) (hO : OrdS E od os) (hb : nxF ns b ≠ -1) :
    Calls Tryd.prog 70 #[.pointer (some ⟨g, 0, none⟩), .int .i64 a, .int .i64 b] w (RulPost (nxF ns) a b w) := by
  have HB := Aside0.mk hB
  have HN := Aside0.mk N
  have HI := Aside0.mk I
  have HO := Aside0.mk hO
  have HS := Aside0.mk (show nxF ns b ≠ -1 ∧ (Up (nxF ns) b a ↔ Up (nxF ns) b a) from ⟨hb, Iff.rfl⟩)
  clear hB N I hO hb
  go_enter Tryd.func70, Tryd.ntmps70
  go_wp2
  go_loopw [2] (fun j wr => ∃ x : Nat, j = .int .i64 x ∧ Aside0 (nxF ns x ≠ -1 ∧ (Up (nxF ns) b a ↔ Up (nxF ns) x a)) ∧ Ext w wr) (fun j _ => (od (intOf j).toNat).toNat)
  case atStart => exact ⟨b, rfl, ⟨HS.out.1, Iff.rfl⟩, Ext.refl _⟩
  case round =>
    obtain ⟨x, rfl, HX, e_w_wr⟩ := hrel
    have hBr := HB.out.ext e_w_wr
    obtain ⟨bx, ox⟩ := HO.out x (HI.out.good x HX.out.1).1
    have c1 := hBr.next bx
    clear hBr ox
    by_cases hxa : x = a
    · subst hxa
      have hq : ((x : Int) != (x : Int)) = false := by simp
      clear c1
      go_wp2
      go_ret
      exact ⟨true, rfl, ⟨fun _ => HX.out.2.2 (.here x), fun _ => rfl⟩, (by repeat (first | assumption | exact Ext.refl _ | exact Ext.of_xt _ _ | apply Ext.alloc | apply Ext.drewN | apply Ext.drew))⟩
    · have hq : ((x : Int) != (a : Int)) = true := by simp; omega
      have hq2 : ((a : Int) == (x : Int)) = false := by simp; omega
      by_cases hx0 : x = 0
      · subst hx0
        rw [show nxF ns 0 = 0 from HI.out.root] at c1
        replace hq : ((0 : Int) != (a : Int)) = true := by simpa using hq
        replace hq2 : ((a : Int) == 0) = false := by simpa using hq2
        have hF := Aside0.mk (show ¬ Up (nxF ns) b a from fun h => hxa (HX.out.2.1 h).zero.symm)
        clear hxa
        go_wp2
        go_ret
        exact ⟨false, rfl, ⟨(fun h => by cases h), fun h => absurd h hF.out⟩, (by repeat (first | assumption | exact Ext.refl _ | exact Ext.of_xt _ _ | apply Ext.alloc | apply Ext.drewN | apply Ext.drew))⟩
      · obtain ⟨c, hc, hn, hlt⟩ := (HI.out.good x HX.out.1).2 hx0
        have hp := HN.out.pos c (HI.out.good c hn).1
        rw [hc] at c1
        have hq3 : ((x : Int) != (c : Int)) = true := by
          simp
          intro e
          have : x = c := by omega
          subst this
          omega
        have HC := Aside0.mk (show nxF ns c ≠ -1 ∧ (Up (nxF ns) b a ↔ Up (nxF ns) c a) from ⟨hn, HX.out.2.trans ⟨fun h => h.next (fun e => hxa e.symm) hc, fun h => .on hx0 hc h⟩⟩)
        have HLT := Aside0.mk hlt
        clear hc hn hx0 hxa hlt
        go_wp2
        go_roundw
        case rel => exact ⟨c, rfl, HC, (by repeat (first | assumption | exact Ext.refl _ | exact Ext.of_xt _ _ | apply Ext.alloc | apply Ext.drewN | apply Ext.drew))⟩
        case measure => simp [intOf]; have h1 := HLT.out; omega
end
end Go.Proofs.YtjbnabjjbofhjaaDoor.Fes
