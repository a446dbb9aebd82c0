/- Package shape: functions and programs. -/
import Derived.Test.YtjbnabjjbofhjaaDoorWins
import Derived.Deep.RegionHeld3
set_option linter.unusedVariables false
set_option linter.unusedSimpArgs false
namespace Go.Proofs.YtjbnabjjbofhjaaDoor.Fes
open Go.RowKit Go.Proofs.YtjbnabjjbofhjaaDoorW.PrintWords

def manyN : List Blk → Nat
  | [] => 0
  | b :: l => b.ins.length + manyN l
theorem manyN_snoc (l : List Blk) (b : Blk) : manyN (l ++ [b]) = manyN l + b.ins.length := by
  induction l with
  | nil => simp [manyN]
  | cons c l ih => simp only [List.cons_append, manyN, ih]; omega
theorem manyN_take_le (l : List Blk) (k : Nat) : manyN (l.take k) ≤ manyN l := by
  induction l generalizing k with
  | nil => simp [manyN]
  | cons c l ih =>
    cases k with
    | zero => simp [manyN]
    | succ k => simp only [List.take_succ_cons, manyN]; have := ih k; omega

set_option maxHeartbeats 1000000 in
theorem many_c (sig : Int) (bs : List Blk) (A : Option Addr) (c : Nat) (w : World) (hA : Kd.C kBlk w A bs.length bs) (hm : manyN bs ≤ 1000000000) :
    Calls Tryd.prog 78 #[.agg #[.int .i64 sig, .slice A bs.length c]] w fun e w' => e = .returned (.int .i64 (manyN bs)) ∧ Ext w w' := by
  have HA := Aside0.mk hA
  have hlen : bs.length ≤ 9223372036854775807 := hA.2.1
  clear hA
  go_enter Tryd.func78, Tryd.ntmps78
  go_wp2
  (have e_w_W0 : Ext w (w.alloc (.cells #[.int .i64 sig, .slice A bs.length c] 51)) := (by repeat (first | assumption | exact Ext.refl _ | exact Ext.of_xt _ _ | apply Ext.alloc | apply Ext.drewN | apply Ext.drew)); generalize w.alloc (.cells #[.int .i64 sig, .slice A bs.length c] 51) = W0 at e_w_W0 ⊢)
  go_loopw [2, 8] (fun s i wr => ∃ (k : Nat), k ≤ bs.length ∧ i = .int .i64 k ∧ s = .int .i64 (manyN (bs.take k)) ∧ Ext W0 wr) (fun _ i _ => bs.length - (intOf i).toNat)
  case atStart => exact ⟨0, by omega, rfl, rfl, Ext.refl _⟩
  case round =>
    obtain ⟨k, hk, rfl, rfl, hxr⟩ := hrel
    have e_w_wr : Ext w wr := e_w_W0.trans hxr
    by_cases hlt : k < bs.length
    · obtain ⟨ad, A0, c0, rfl, a0, a1, a2, a3, a4, l0, g0⟩ := at_Blk (e_w_wr.C HA.out) k hlt
      have HT : Aside0 (manyN (bs.take (k + 1)) = manyN (bs.take k) + (bs[k]).ins.length) := ⟨by rw [take_snoc bs k hlt, manyN_snoc]⟩
      have hle := manyN_take_le bs (k + 1)
      rw [HT.out] at hle
      generalize bs[k] = b at *
      generalize manyN (bs.take k) = m at *
      clear g0
      go_wp2
      go_roundw
      case rel => exact ⟨k + 1, by omega, by go_num, by rw [HT.out]; go_num, (by repeat (first | assumption | exact Ext.refl _ | exact Ext.of_xt _ _ | apply Ext.alloc | apply Ext.drewN | apply Ext.drew))⟩
      case measure => simp [intOf]; omega
    · obtain rfl : k = bs.length := by omega
      go_wp2
      go_ret
      exact ⟨ret_int (by rw [List.take_length]), e_w_wr⟩

/-- what may be in a program, from how great it is: texts and lists are short -/
structure SmP (p : Prg) : Prop where
  tl : p.types.length ≤ 20
  tp : ∀ x ∈ p.types, x.parts.length ≤ 20
  fl : p.funcs.length ≤ 10
  bl : ∀ f ∈ p.funcs, f.blocks.length ≤ 20
  il : ∀ f ∈ p.funcs, manyN f.blocks ≤ 300
  ag : ∀ f ∈ p.funcs, ∀ b ∈ f.blocks, ∀ x ∈ b.ins, x.args.length ≤ 20 ∧ x.froms.length ≤ 20
/-- its bytes are bytes -/
def WfP (p : Prg) : Prop := ∀ f ∈ p.funcs, ∀ b ∈ f.blocks, ∀ x ∈ b.ins, 0 ≤ x.op ∧ x.op ≤ 255

def blkB (b : Blk) (t f r n : Int) : Bool := b.ins.all (fun x => insB x t f r n) && endB b.en r n
def regsN (p : Prg) (f : Fc) : Int := ((p.types.getD f.sig.toNat zTyp).parts.length : Int) + manyN f.blocks
/-- may a function be? -/
def funB (p : Prg) (f : Fc) : Bool :=
  belB f.sig p.types.length && decide ((p.types.getD f.sig.toNat zTyp).kind = 3) && belB ((f.blocks.length : Int) - 1) 16 && decide (manyN f.blocks ≤ 128) &&
    f.blocks.all (fun b => blkB b p.types.length p.funcs.length (regsN p f) f.blocks.length)

def vBlk (b : Blk) (A0 : Option Addr) (c0 : Nat) : Value := .agg #[.slice A0 b.ins.length c0, .int .u8 b.en.kind, .int .i64 b.en.a, .int .i64 b.en.to, .int .i64 b.en.els]
def vFc (f : Fc) (A1 : Option Addr) (c1 : Nat) : Value := .agg #[.int .i64 f.sig, .slice A1 f.blocks.length c1]
def vPrg (p : Prg) (A0 : Option Addr) (c0 : Nat) (A1 : Option Addr) (c1 : Nat) : Value := .agg #[.slice A0 p.types.length c0, .slice A1 p.funcs.length c1]

set_option maxHeartbeats 1000000 in
theorem odd_c (x : Ins) (A5 : Option Addr) (c5 : Nat) (A6 : Option Addr) (c6 : Nat) (t f r n : Int) (B : Nat) (w : World) (h0 : 0 ≤ x.op) (h1 : x.op ≤ 255) (hT : Tab w)
    (hA : Kd.C (Kd.int .i64) w A5 x.args.length x.args) (hF : Kd.C (Kd.int .i64) w A6 x.froms.length x.froms)
    (b0 : ∀ W, Ext w W → W.cell? ⟨B, 0, none⟩ = some (.int .i64 t)) (b1 : ∀ W, Ext w W → W.cell? ⟨B, 1, none⟩ = some (.int .i64 f)) (b2 : ∀ W, Ext w W → W.cell? ⟨B, 2, none⟩ = some (.int .i64 r)) (b3 : ∀ W, Ext w W → W.cell? ⟨B, 3, none⟩ = some (.int .i64 n)) :
    Calls Tryd.prog 141 #[vIns x A5 c5 A6 c6, .pointer (some ⟨B, 0, none⟩)] w fun e w' => e = .returned (.bool (!insB x t f r n)) ∧ Ext w w' := by
  have HT := Aside0.mk hT
  have HA := Aside0.mk hA
  have HF := Aside0.mk hF
  clear hT hA hF
  unfold vIns
  go_enter Tryd.func141, Tryd.ntmps141
  go_wp2_with fail
  refine (insB_c x A5 c5 A6 c6 t f r n _ h0 h1 (HT.out.ext (by repeat (first | assumption | exact Ext.refl _ | exact Ext.of_xt _ _ | apply Ext.alloc | apply Ext.drewN | apply Ext.drew))) (Ext.C (by repeat (first | assumption | exact Ext.refl _ | exact Ext.of_xt _ _ | apply Ext.alloc | apply Ext.drewN | apply Ext.drew)) HA.out) (Ext.C (by repeat (first | assumption | exact Ext.refl _ | exact Ext.of_xt _ _ | apply Ext.alloc | apply Ext.drewN | apply Ext.drew)) HF.out)).mono ?_
  (rintro _ w1 ⟨rfl, hx_⟩; have e_w_w1 : Ext w w1 := Ext.trans (by repeat (first | assumption | exact Ext.refl _ | exact Ext.of_xt _ _ | apply Ext.alloc | apply Ext.drewN | apply Ext.drew)) hx_; clear hx_)
  go_wp2
  go_ret
  exact ⟨rfl, (by repeat (first | assumption | exact Ext.refl _ | exact Ext.of_xt _ _ | apply Ext.alloc | apply Ext.drewN | apply Ext.drew))⟩

set_option maxHeartbeats 2000000 in
theorem blkNot_c (b : Blk) (A0 : Option Addr) (c0 : Nat) (t f r n : Int) (B D : Nat) (w : World) (hT : Tab w) (hw : ∀ x ∈ b.ins, 0 ≤ x.op ∧ x.op ≤ 255)
    (hA : Kd.C kIns w A0 b.ins.length b.ins)
    (b0 : ∀ W, Ext w W → W.cell? ⟨B, 0, none⟩ = some (.int .i64 t)) (b1 : ∀ W, Ext w W → W.cell? ⟨B, 1, none⟩ = some (.int .i64 f)) (b2 : ∀ W, Ext w W → W.cell? ⟨B, 2, none⟩ = some (.int .i64 r)) (b3 : ∀ W, Ext w W → W.cell? ⟨B, 3, none⟩ = some (.int .i64 n))
    (d0 : ∀ W, Ext w W → W.cell? ⟨D, 0, none⟩ = some (.func (.func 141) #[] #[.pointer (some ⟨B, 0, none⟩)])) :
    Calls Tryd.prog 144 #[vBlk b A0 c0, .pointer (some ⟨D, 0, none⟩), .pointer (some ⟨B, 0, none⟩)] w fun e w' => e = .returned (.bool (!blkB b t f r n)) ∧ Ext w w' := by
  have HT := Aside0.mk hT
  have HA := Aside0.mk hA
  have HW := Aside0.mk hw
  clear hT hA hw
  unfold vBlk
  go_enter Tryd.func144, Tryd.ntmps144
  go_wp2_with fail
  refine (hasIn_c 141 _ (enters_of Tryd.func141 (by kernel_rfl) rfl) (fun x => !insB x t f r n) A0 c0 b.ins _ (Ext.C (by repeat (first | assumption | exact Ext.refl _ | exact Ext.of_xt _ _ | apply Ext.alloc | apply Ext.drewN | apply Ext.drew)) HA.out) ?_).mono ?_
  · intro W x cs hx hW hK
    obtain ⟨A5, c5, A6, c6, rfl, l5, g5, l6, g6⟩ := kIns_open hK
    have hww : Ext w W := Ext.trans (by repeat (first | assumption | exact Ext.refl _ | exact Ext.of_xt _ _ | apply Ext.alloc | apply Ext.drewN | apply Ext.drew)) hW
    have hop := HW.out x hx
    exact odd_c x A5 c5 A6 c6 t f r n B W hop.1 hop.2 (HT.out.ext hww) g5 g6 (fun W' h' => b0 W' (hww.trans h')) (fun W' h' => b1 W' (hww.trans h')) (fun W' h' => b2 W' (hww.trans h')) (fun W' h' => b3 W' (hww.trans h'))
  · (rintro _ w1 ⟨rfl, hx_⟩; have e_w_w1 : Ext w w1 := Ext.trans (by repeat (first | assumption | exact Ext.refl _ | exact Ext.of_xt _ _ | apply Ext.alloc | apply Ext.drewN | apply Ext.drew)) hx_; have b_w1_0_0 := stays (hx_.cell (a := ⟨w.heap.size, 0, none⟩) (by first | (go_simp; rfl) | rfl)); have b_w1_0_1 := stays (hx_.cell (a := ⟨w.heap.size, 1, none⟩) (by first | (go_simp; rfl) | rfl)); have b_w1_0_2 := stays (hx_.cell (a := ⟨w.heap.size, 2, none⟩) (by first | (go_simp; rfl) | rfl)); have b_w1_0_3 := stays (hx_.cell (a := ⟨w.heap.size, 3, none⟩) (by first | (go_simp; rfl) | rfl)); have b_w1_0_4 := stays (hx_.cell (a := ⟨w.heap.size, 4, none⟩) (by first | (go_simp; rfl) | rfl)); clear hx_)
    have hany : b.ins.any (fun x => !insB x t f r n) = !b.ins.all (fun x => insB x t f r n) := by rw [List.not_all_eq_any_not]
    cases hq : b.ins.all (fun x => insB x t f r n) with
    | false =>
      rw [hany, hq]
      have HF := Aside0.mk (show (!blkB b t f r n) = true by simp [blkB, hq])
      go_wp2
      go_ret
      exact ⟨ret_bool HF.out.symm, (by repeat (first | assumption | exact Ext.refl _ | exact Ext.of_xt _ _ | apply Ext.alloc | apply Ext.drewN | apply Ext.drew))⟩
    | true =>
      rw [hany, hq]
      have HF := Aside0.mk (show (!blkB b t f r n) = !endB b.en r n by simp [blkB, hq])
      clear hq hany
      go_wp2_with fail
      refine (endB_c b.en t f r n _).mono ?_
      (rintro _ w2 ⟨rfl, hx_⟩; have e_w_w2 : Ext w w2 := Ext.trans (by repeat (first | assumption | exact Ext.refl _ | exact Ext.of_xt _ _ | apply Ext.alloc | apply Ext.drewN | apply Ext.drew)) hx_; clear hx_)
      go_wp2
      go_ret
      exact ⟨ret_bool HF.out.symm, (by repeat (first | assumption | exact Ext.refl _ | exact Ext.of_xt _ _ | apply Ext.alloc | apply Ext.drewN | apply Ext.drew))⟩
end Go.Proofs.YtjbnabjjbofhjaaDoor.Fes
