/- Rulers: what package dom answers, in plain Lean; and the statements of layer 10 about it. -/
import Derived.Test.YtjbnabjjbofhjaaDoorPe
import Derived.Test.YtjbnabjjbofhjaaDoorPr
set_option linter.unusedVariables false
set_option linter.unusedSimpArgs false
namespace Go.Proofs.YtjbnabjjbofhjaaDoor.Fes

abbrev toF (p : Prg) (f : Int) : Nat → List Nat := toN (fnP p f).blocks
abbrev nF (p : Prg) (f : Int) : Nat := (fnP p f).blocks.length
/-- is a block reached? -/
def rcB (p : Prg) (f : Int) (b : Nat) : Bool := comeB (toF p f) (nF p f) [0] (-1) b
/-- the error of a block that should be reached -/
def domE (p : Prg) (f b : Int) : Int := if flE p f b = 0 then (if rcB p f b.toNat = true then 0 else 6) else flE p f b
def rlE (p : Prg) (f a b : Int) : Int := if flE p f a = 0 then domE p f b else flE p f a
/-- does one rule another one? -/
def rlB (p : Prg) (f a b : Int) : Bool := if rlE p f a b = 0 then ruledB (toF p f) (nF p f) a.toNat b.toNat else false
/-- the ruler next to one -/
def dnP (p : Prg) (f b : Int) : Int := if domE p f b = 0 then rulerL (toF p f) (nF p f) b.toNat else 0
/-- the rulers next to all -/
def daP (p : Prg) (f : Int) : List Int := if domE p f 0 = 0 then (List.range (nF p f)).map (fun b => if rcB p f b = true then rulerL (toF p f) (nF p f) b else -1) else []

theorem domE_zero {p : Prg} {f b : Int} (h : domE p f b = 0) : flE p f b = 0 ∧ rcB p f b.toNat = true := by
  unfold domE at h
  split at h
  · rename_i h0
    split at h
    · rename_i h1; exact ⟨h0, h1⟩
    · omega
  · rename_i h0; exact absurd h h0
/-- what stands behind an error of none -/
structure DomOk (p : Prg) (f b : Int) : Prop where
  fl : flE p f b = 0
  fl0 : flE p f 0 = 0
  b0 : 0 ≤ b
  b1 : b < nF p f
  ins : Inside (toF p f) (nF p f)
  pos : 0 < nF p f
  rc : Rc (toF p f) b.toNat
theorem domE_ok {p : Prg} {f b : Int} (h : domE p f b = 0) : DomOk p f b := by
  obtain ⟨h1, h2⟩ := domE_zero h
  obtain ⟨_, _, b0, b1⟩ := flE_zero h1
  have hi := (flE_edge h1).inside
  have hn : 0 < nF p f := by show 0 < (fnP p f).blocks.length; omega
  exact ⟨h1, flE_any h1 (by omega) (by omega), b0, b1, hi, hn, (reached_iff hi hn _).1 h2⟩
theorem domE_of {p : Prg} {f b : Int} (h : flE p f b = 0) (hr : Rc (toF p f) b.toNat) : domE p f b = 0 := by
  obtain ⟨_, _, b0, b1⟩ := flE_zero h
  unfold domE
  rw [if_pos h, if_pos (show rcB p f b.toNat = true from (reached_iff (flE_edge h).inside (by show 0 < (fnP p f).blocks.length; omega) _).2 hr)]
theorem domE_first {p : Prg} {f : Int} (h : flE p f 0 = 0) : domE p f 0 = 0 := domE_of h (.here trivial)
theorem domE_zero0 {p : Prg} {f : Int} : domE p f 0 = flE p f 0 := by
  by_cases h : flE p f 0 = 0
  · rw [h]; exact domE_first h
  · unfold domE; rw [if_neg h]
/-- the three errors -/
theorem domE_none {p : Prg} {f b : Int} (h : flE p f 0 ≠ 0) : domE p f b = flE p f 0 ∧ flE p f b ≠ 0 := by
  have key : flE p f b = flE p f 0 := by
    unfold flE at *
    by_cases ha : askP p f = 0
    · rw [if_pos ha] at h ⊢
      rw [if_pos ha]
      have hn : belB 0 ((fnP p f).blocks.length) = false := by
        cases hq : belB 0 ((fnP p f).blocks.length) with
        | false => rfl
        | true => rw [hq] at h; exact absurd rfl h
      have hb : belB b ((fnP p f).blocks.length) = false := by
        cases hq : belB b ((fnP p f).blocks.length) with
        | false => rfl
        | true =>
          have h1 := belB_iff.1 hq
          have h2 := belB_not.1 hn
          omega
      rw [hn, hb]
    · rw [if_neg ha, if_neg ha]
  have hb : flE p f b ≠ 0 := by rw [key]; exact h
  refine ⟨?_, hb⟩
  unfold domE
  rw [if_neg hb, key]
theorem domE_out {p : Prg} {f b : Int} (h : flE p f 0 = 0) (hb : ¬ (0 ≤ b ∧ b < nF p f)) : domE p f b = 2 := by
  have ha := flE_ask h
  have h2 : flE p f b = 2 := by
    unfold flE
    rw [if_pos ha]
    have : belB b ((fnP p f).blocks.length) = false := by
      cases hq : belB b ((fnP p f).blocks.length) with
      | false => rfl
      | true => exact absurd (belB_iff.1 hq) hb
    rw [this]; rfl
  unfold domE
  rw [h2]; rfl
theorem domE_six {p : Prg} {f b : Int} (h : flE p f b = 0) (hr : ¬ Rc (toF p f) b.toNat) : domE p f b = 6 := by
  obtain ⟨_, _, b0, b1⟩ := flE_zero h
  unfold domE
  rw [if_pos h, if_neg (show ¬ rcB p f b.toNat = true from fun e => hr ((reached_iff (flE_edge h).inside (by show 0 < (fnP p f).blocks.length; omega) _).1 e))]
theorem rlE_zero {p : Prg} {f a b : Int} (h : rlE p f a b = 0) : flE p f a = 0 ∧ domE p f b = 0 := by
  unfold rlE at h
  split at h
  · rename_i h0; exact ⟨h0, h⟩
  · rename_i h0; exact absurd h h0
theorem rlE_of {p : Prg} {f a b : Int} (h : flE p f a = 0) (k : domE p f b = 0) : rlE p f a b = 0 := by unfold rlE; rw [if_pos h]; exact k
theorem rlB_no {p : Prg} {f a b : Int} (h : rlE p f a b ≠ 0) : rlB p f a b = false := by unfold rlB; rw [if_neg h]
theorem rlB_iff {p : Prg} {f a b : Int} : rlB p f a b = true ↔ flE p f a = 0 ∧ domE p f b = 0 ∧ Dm (toF p f) a.toNat b.toNat := by
  unfold rlB
  by_cases h : rlE p f a b = 0
  · rw [if_pos h]
    obtain ⟨h1, h2⟩ := rlE_zero h
    have D := domE_ok h2
    rw [ruledB_iff D.ins D.pos D.rc]
    exact ⟨fun h => ⟨h1, h2, h⟩, fun h => h.2.2⟩
  · rw [if_neg h]
    exact ⟨(fun h => by cases h), fun ⟨h1, h2, _⟩ => absurd (rlE_of h1 h2) h⟩
theorem rlB_dm {p : Prg} {f a b : Int} (ha : flE p f a = 0) (hb : domE p f b = 0) : rlB p f a b = true ↔ Dm (toF p f) a.toNat b.toNat := by
  rw [rlB_iff]; exact ⟨fun h => h.2.2, fun h => ⟨ha, hb, h⟩⟩
theorem eq_of_toNat {p : Prg} {f a b : Int} (ha : flE p f a = 0) (hb : flE p f b = 0) (h : a.toNat = b.toNat) : a = b := by
  obtain ⟨_, _, a0, a1⟩ := flE_zero ha
  obtain ⟨_, _, b0, b1⟩ := flE_zero hb
  omega

/-- DomLaws. -/
structure DLaws (p : Prg) (f a b c : Int) : Prop where
  z : rlB p f 0 c = true
  s : rlB p f c c = true
  t : rlB p f a b = true → rlB p f b c = true → rlB p f a c = true
  y : a ≠ c → rlB p f a c = true → rlB p f c a = false
  u : rlB p f a c = true → rlB p f b c = true → rlB p f a b = false → rlB p f b a = true
theorem dlaws {p : Prg} {f a b c : Int} (h : domE p f c = 0) : DLaws p f a b c := by
  have D := domE_ok h
  refine ⟨(rlB_dm D.fl0 h).2 (Dm.first _ _), (rlB_dm D.fl h).2 (Dm.self _ _), fun h1 h2 => ?_, fun hne h1 => ?_, fun h1 h2 h3 => ?_⟩
  · obtain ⟨a1, a2, a3⟩ := rlB_iff.1 h1
    obtain ⟨b1, b2, b3⟩ := rlB_iff.1 h2
    exact rlB_iff.2 ⟨a1, h, a3.trans b3⟩
  · cases hq : rlB p f c a with
    | false => rfl
    | true =>
      obtain ⟨a1, a2, a3⟩ := rlB_iff.1 h1
      obtain ⟨b1, b2, b3⟩ := rlB_iff.1 hq
      exact absurd (eq_of_toNat a1 b1 (a3.antisymm b3 D.rc)) hne
  · obtain ⟨a1, a2, a3⟩ := rlB_iff.1 h1
    obtain ⟨b1, b2, b3⟩ := rlB_iff.1 h2
    have ra : domE p f a = 0 := domE_of a1 (a3.reached D.rc)
    have rb : domE p f b = 0 := domE_of b1 (b3.reached D.rc)
    rcases a3.total b3 D.rc with h4 | h4
    · rw [(rlB_dm a1 rb).2 h4] at h3; cases h3
    · exact (rlB_dm b1 ra).2 h4

/-- There is a ruler next to each but block 0. -/
theorem max_of (od : Nat → Int) (P : Nat → Prop) : ∀ (n : Nat), (∃ a, a < n ∧ P a) → ∃ a, a < n ∧ P a ∧ ∀ c, c < n → P c → od c ≤ od a := by
  intro n
  induction n with
  | zero => rintro ⟨a, ha, _⟩; omega
  | succ n ih =>
    rintro ⟨a, ha, hp⟩
    by_cases h : ∃ a, a < n ∧ P a
    · obtain ⟨m, hm, hpm, hmax⟩ := ih h
      by_cases hn : P n ∧ od m < od n
      · refine ⟨n, by omega, hn.1, fun c hc hpc => ?_⟩
        by_cases e : c = n
        · subst e; omega
        · have := hmax c (by omega) hpc; omega
      · refine ⟨m, by omega, hpm, fun c hc hpc => ?_⟩
        by_cases e : c = n
        · subst e
          rcases Int.lt_or_le (od m) (od c) with hl | hl
          · exact absurd ⟨hpc, hl⟩ hn
          · exact hl
        · exact hmax c (by omega) hpc
    · have : a = n := Classical.byContradiction fun e => h ⟨a, by omega, hp⟩
      subst this
      refine ⟨a, by omega, hp, fun c hc hpc => ?_⟩
      by_cases e : c = a
      · subst e; omega
      · exact absurd ⟨c, by omega, hpc⟩ h
theorem Dm.le {E : Nat → List Nat} {od : Nat → Int} (N : Nums E od) {a b : Nat} (h : Dm E a b) (hb : Rc E b) : od a ≤ od b := by
  have hf : Fd E od a b := fun hr => h (by
    have key : ∀ x, Rch (fto E od) (fun x => x ≠ a) 0 x → Rch E (fun x => x ≠ a) 0 x := by
      intro x hx
      induction hx with
      | here h => exact .here h
      | on _ hc ho ih => exact ih.on (mem_fto.1 hc).1 ho
    exact key b hr)
  exact fto_le (hf.way N hb)
theorem ruler_ex {E : Nat → List Nat} {od : Nat → Int} {n : Nat} (hi : Inside E n) (hn : 0 < n) (N : Nums E od) {b : Nat} (hb : Rc E b) (hb0 : b ≠ 0) : ∃ a, IsRuler E a b ∧ Rc E a ∧ od a < od b := by
  obtain ⟨a, ha, ⟨hne, hd⟩, hmax⟩ := max_of od (fun a => a ≠ b ∧ Dm E a b) n ⟨0, hn, fun e => hb0 e.symm, Dm.first _ _⟩
  have har := hd.reached hb
  refine ⟨a, ⟨hne, hd, fun c hc hcb => ?_⟩, har, ?_⟩
  · have hcr := hcb.reached hb
    rcases hcb.total hd hb with h | h
    · exact h
    · have h1 := h.le N hcr
      have h2 := hmax c (hcr.lt hi hn) ⟨hc, hcb⟩
      obtain rfl : c = a := N.inj c a hcr har (by omega)
      exact Dm.self _ _
  · have h1 := hd.le N hb
    have : od a ≠ od b := fun e => hne (N.inj a b har hb e)
    omega

/-- DomNexts: a step of the way up. -/
structure DStep (p : Prg) (f a b c : Int) (k : Nat) (met : Bool) : Prop where
  dm : Dm (toF p f) c.toNat b.toNat
  ok : domE p f c = 0
  od : odB (toF p f) (nF p f) c.toNat + k < 20
  met : met = true ↔ Dm (toF p f) a.toNat b.toNat ∧ ¬ Dm (toF p f) a.toNat c.toNat
/-- .. and its end -/
def DAt (p : Prg) (f a b c : Int) (k : Nat) (met : Bool) : Prop := (c = -1 ∧ met = rlB p f a b) ∨ (0 ≤ c ∧ DStep p f a b c k met)
theorem dat_start {p : Prg} {f a b : Int} (h : rlE p f a b = 0) (hs : (nF p f) ≤ 20) : DAt p f a b b 0 false := by
  obtain ⟨h1, h2⟩ := rlE_zero h
  have D := domE_ok h2
  refine .inr ⟨D.b0, Dm.self _ _, h2, ?_, by simp⟩
  have hm := (mem_orderL D.ins D.pos b.toNat).2 D.rc
  unfold odB
  rw [if_pos hm]
  have hl := List.idxOf_lt_length_iff.2 hm
  have := nodup_le (nF p f) _ (orderL_nodup D.ins D.pos) (orderL_small D.ins D.pos)
  omega
theorem dat_room {p : Prg} {f a b c : Int} {k : Nat} {met : Bool} (h : DAt p f a b c k met) (hc : 0 ≤ c) : k < 20 := by
  rcases h with ⟨rfl, _⟩ | ⟨_, S⟩
  · omega
  · have D := domE_ok S.ok
    have := (odB_nums D.ins D.pos).pos _ D.rc
    have := S.od
    omega
theorem dat_step {p : Prg} {f a b c : Int} {k : Nat} {met : Bool} (h : DAt p f a b c k met) (hc : 0 ≤ c) (hab : rlE p f a b = 0) :
    domE p f c = 0 ∧ dnP p f c ≠ c ∧ ¬ (dnP p f c < 0 ∧ c ≠ 0) ∧ DAt p f a b (dnP p f c) (k + 1) (met || c == a) := by
  rcases h with ⟨rfl, _⟩ | ⟨_, S⟩
  · omega
  obtain ⟨ha, hb⟩ := rlE_zero hab
  obtain ⟨_, _, a0, a1⟩ := flE_zero ha
  have D := domE_ok S.ok
  have B := domE_ok hb
  have N := odB_nums D.ins D.pos
  obtain ⟨q, rfl⟩ := Int.eq_ofNat_of_zero_le hc
  obtain ⟨x, rfl⟩ := Int.eq_ofNat_of_zero_le a0
  have hdn : dnP p f (q : Int) = rulerL (toF p f) (nF p f) q := by unfold dnP; rw [if_pos S.ok]; rfl
  have hdm : Dm (toF p f) q b.toNat := S.dm
  have hrc : Rc (toF p f) q := D.rc
  have hmet : met = true ↔ Dm (toF p f) x b.toNat ∧ ¬ Dm (toF p f) x q := S.met
  by_cases h0 : q = 0
  · subst h0
    rw [hdn, rulerL_zero D.ins D.pos]
    refine ⟨S.ok, by omega, by omega, .inl ⟨rfl, ?_⟩⟩
    rw [Bool.eq_iff_iff, Bool.or_eq_true, rlB_dm ha hb, hmet, beq_iff_eq]
    show _ ↔ Dm (toF p f) x b.toNat
    constructor
    · rintro (h | h)
      · exact h.1
      · obtain rfl : x = 0 := by omega
        exact Dm.first _ _
    · intro h
      by_cases e : x = 0
      · exact .inr (by omega)
      · exact .inl ⟨h, fun k => e k.zero⟩
  · obtain ⟨r, hr, hrr, hro⟩ := ruler_ex D.ins D.pos N hrc h0
    have hrl := rulerL_some D.ins D.pos hrc hr
    rw [hdn, hrl]
    have hrn := hrr.lt D.ins D.pos
    have hok : domE p f (r : Int) = 0 := domE_of (flE_any D.fl (by omega) (by show (r : Int) < ((fnP p f).blocks.length : Int); have : r < (fnP p f).blocks.length := hrn; omega)) hrr
    refine ⟨S.ok, fun e => hr.1 (by omega), by omega, .inr ⟨by omega, hr.2.1.trans hdm, hok, ?_, ?_⟩⟩
    · have := S.od
      have e1 : ((q : Int).toNat) = q := by simp
      have e2 : ((r : Int).toNat) = r := by simp
      rw [e1] at this
      rw [e2]
      omega
    · show _ ↔ Dm (toF p f) x b.toNat ∧ ¬ Dm (toF p f) x r
      rw [Bool.or_eq_true, hmet, beq_iff_eq]
      constructor
      · rintro (⟨h1, h2⟩ | h)
        · exact ⟨h1, fun k => h2 (k.trans hr.2.1)⟩
        · obtain rfl : q = x := by omega
          exact ⟨hdm, fun k => hr.1 (k.antisymm hr.2.1 hrr).symm⟩
      · rintro ⟨h1, h2⟩
        by_cases e : x = q
        · exact .inr (by omega)
        · exact .inl ⟨h1, fun k => h2 (hr.2.2 x e k)⟩
theorem dat_end {p : Prg} {f a b c : Int} {k : Nat} {met : Bool} (h : DAt p f a b c k met) (hk : c < 0 ∨ 20 ≤ k) : c = -1 ∧ met = rlB p f a b := by
  rcases h with h | ⟨h0, S⟩
  · exact h
  · have := dat_room (.inr ⟨h0, S⟩) h0
    omega

/-- DomAhead. -/
def allB (p : Prg) (f a : Int) (l : List Int) : Bool := l.all fun x => domE p f x != 0 || rlB p f a x
theorem allB_snoc (p : Prg) (f a : Int) (l : List Int) (x : Int) : allB p f a (l ++ [x]) = (allB p f a l && (domE p f x != 0 || rlB p f a x)) := by simp [allB]
theorem dahead {p : Prg} {f a b : Int} (h : rlE p f a b = 0) : ((b = 0 ∨ a = b) → rlB p f a b = decide (a = b)) ∧ (¬ (b = 0 ∨ a = b) → rlB p f a b = allB p f a (prP p f b)) := by
  obtain ⟨ha, hb⟩ := rlE_zero h
  have B := domE_ok hb
  obtain ⟨_, _, a0, a1⟩ := flE_zero ha
  constructor
  · rintro (rfl | rfl)
    · rw [Bool.eq_iff_iff, rlB_dm ha hb, decide_eq_true_eq]
      constructor
      · intro h; have := h.zero; omega
      · intro h; subst h; exact Dm.self _ _
    · rw [(rlB_dm ha hb).2 (Dm.self _ _)]; simp
  · intro hn
    have b0 := B.b0
    obtain ⟨q, rfl⟩ := Int.eq_ofNat_of_zero_le b0
    have hq0 : q ≠ 0 := fun e => hn (.inl (by omega))
    have hne : a.toNat ≠ q := fun e => hn (.inr (by omega))
    have hrc : Rc (toF p f) q := B.rc
    rw [Bool.eq_iff_iff, rlB_dm ha hb]
    show Dm (toF p f) a.toNat q ↔ _
    unfold allB
    rw [List.all_eq_true]
    constructor
    · intro hd x hx
      obtain ⟨y, rfl, hy⟩ := pr_sub B.fl x hx
      have hto : q ∈ toF p f y := by
        have := pr_at B.fl hy
        rw [(contains_iff _ _).2 hx] at this
        simpa using this.symm
      by_cases hd2 : domE p f (y : Int) = 0
      · rw [Bool.or_eq_true]
        exact .inr ((rlB_dm ha hd2).2 (hd.ahead hto hne))
      · simp [hd2]
    · intro hall
      refine Dm.of_ahead hq0 fun y hy hyr => ?_
      have hyn : y < nF p f := hyr.lt B.ins B.pos
      have hx : (y : Int) ∈ prP p f q := by
        have := pr_at B.fl hyn
        rw [← contains_iff, this]
        simpa using hy
      have hok : domE p f (y : Int) = 0 := domE_of (flE_any B.fl (by omega) (by show (y : Int) < ((fnP p f).blocks.length : Int); have : y < (fnP p f).blocks.length := hyn; omega)) hyr
      have := hall _ hx
      rw [Bool.or_eq_true] at this
      rcases this with h1 | h1
      · simp [hok] at h1
      · exact (rlB_dm ha hok).1 h1
end Go.Proofs.YtjbnabjjbofhjaaDoor.Fes
