/-
  NARROWER THAN 'FOR EVERY INPUT', by the rows' own cells (each row's printed sentence says how): FlowTells: laid · FlowRounds: laid · FlowNames: laid · FlowBoth: laid · FlowOrder: laid · DomLaws: laid · DomNexts: laid · DomAhead: laid · DomNames: laid · DomPlaces: laid · LiveNames: laid · LiveStep: laid · LiveEnd: laid · LiveWays: laid.
  DERIVED. THE GIVEN ROWS OF THIS SEAT. 14 by the template 'for every input the law returns true; each argument reads behind the call as it read before'; 0 by the template 'total and deterministic' (their statements: YtjbnabjjbofhjaaDoorTotals.lean).
  GIVEN WITH THE SEED: the statements are not yours to turn. If you find one false, say at which input.
  Laid BY PROGRAM, IN A SANDBOX (cutbox-rows.mjs): the forced cells as the released guide's own fill.sh prints them over the translation a0994adc0a450b94… (all of the seat's roots in one cut). By AI agents, Wed Nov 11 2026. No macro, syntax, notation, axiom, sorry.
-/
import Derived.Test.YtjbnabjjbofhjaaDoorChecked
import GoSem.Claim
import GoSem.ClaimJoined
import GoSem.ClaimMapViews
import Derived.JoinedTies
import Derived.KernelRfl
namespace Go.Proofs.YtjbnabjjbofhjaaDoor
/- THE CELL 'sum', in the pinned program and in every row, IS THE sha256 OF THE DUMP (.gsa) THAT YtjbnabjjbofhjaaDoorProg.lean LOADS. Nothing in Lean hashes anything: it is a label: what it is worth is what the hold of that sum in a sandbox is worth. -/
noncomputable def Tryd.pinned : Pinned := { name := "ytjbnabjjbofhjaadoor", sum := "a0994adc0a450b94b4acdbf836613ca213d3973c188b8216e56428862fa07f9d", checked := Tryd.checked }
namespace Rows
def none {H : Type} : Left H := { results := [], args := [] }

/- WHAT THE LISTED PACKAGE-LEVEL VARIABLES READ AS WHEN THE CALL BEGINS. Each datum BY PROGRAM (the guide's laid-datum.mjs) off the statement by which the dump's own 'gosem.cut.vars' lays the variable. In a bare row this is a premise. The card (YtjbnabjjbofhjaaDoorCards.lean) ties it to the program's text. -/
def laid_fescue_shape_table {H : Type} : DataW H := .agg [.agg [.lit (.bool false), .lit (.bool false), .lit (.bool false), .lit (.bool false), .lit (.bool false), .lit (.bool false)], .agg [.lit (.bool false), .lit (.bool false), .lit (.bool true), .lit (.bool false), .lit (.bool false), .lit (.bool true)], .agg [.lit (.bool false), .lit (.bool false), .lit (.bool false), .lit (.bool false), .lit (.bool false), .lit (.bool true)], .agg [.lit (.bool false), .lit (.bool false), .lit (.bool true), .lit (.bool false), .lit (.bool false), .lit (.bool true)], .agg [.lit (.bool true), .lit (.bool true), .lit (.bool false), .lit (.bool false), .lit (.bool false), .lit (.bool true)], .agg [.lit (.bool true), .lit (.bool true), .lit (.bool false), .lit (.bool false), .lit (.bool false), .lit (.bool true)], .agg [.lit (.bool true), .lit (.bool true), .lit (.bool false), .lit (.bool false), .lit (.bool false), .lit (.bool true)], .agg [.lit (.bool true), .lit (.bool true), .lit (.bool false), .lit (.bool false), .lit (.bool false), .lit (.bool true)], .agg [.lit (.bool true), .lit (.bool true), .lit (.bool false), .lit (.bool false), .lit (.bool false), .lit (.bool true)], .agg [.lit (.bool true), .lit (.bool true), .lit (.bool false), .lit (.bool false), .lit (.bool false), .lit (.bool true)], .agg [.lit (.bool true), .lit (.bool true), .lit (.bool false), .lit (.bool false), .lit (.bool false), .lit (.bool true)], .agg [.lit (.bool false), .lit (.bool false), .lit (.bool false), .lit (.bool false), .lit (.bool false), .lit (.bool true)], .agg [.lit (.bool false), .lit (.bool false), .lit (.bool false), .lit (.bool false), .lit (.bool false), .lit (.bool true)], .agg [.lit (.bool true), .lit (.bool false), .lit (.bool false), .lit (.bool false), .lit (.bool false), .lit (.bool false)], .agg [.lit (.bool true), .lit (.bool false), .lit (.bool true), .lit (.bool false), .lit (.bool false), .lit (.bool true)], .agg [.lit (.bool true), .lit (.bool true), .lit (.bool false), .lit (.bool false), .lit (.bool false), .lit (.bool true)], .agg [.lit (.bool true), .lit (.bool false), .lit (.bool false), .lit (.bool false), .lit (.bool false), .lit (.bool true)], .agg [.lit (.bool true), .lit (.bool true), .lit (.bool false), .lit (.bool false), .lit (.bool false), .lit (.bool false)], .agg [.lit (.bool false), .lit (.bool false), .lit (.bool true), .lit (.bool true), .lit (.bool false), .lit (.bool true)], .agg [.lit (.bool true), .lit (.bool false), .lit (.bool false), .lit (.bool true), .lit (.bool false), .lit (.bool true)], .agg [.lit (.bool false), .lit (.bool false), .lit (.bool false), .lit (.bool false), .lit (.bool false), .lit (.bool true)], .agg [.lit (.bool true), .lit (.bool false), .lit (.bool false), .lit (.bool false), .lit (.bool false), .lit (.bool false)], .agg [.lit (.bool false), .lit (.bool false), .lit (.bool false), .lit (.bool true), .lit (.bool true), .lit (.bool true)]]
def laid_math_bits_deBruijn64tab {H : Type} : DataW H := .agg [.lit (.int .u8 0), .lit (.int .u8 1), .lit (.int .u8 56), .lit (.int .u8 2), .lit (.int .u8 57), .lit (.int .u8 49), .lit (.int .u8 28), .lit (.int .u8 3), .lit (.int .u8 61), .lit (.int .u8 58), .lit (.int .u8 42), .lit (.int .u8 50), .lit (.int .u8 38), .lit (.int .u8 29), .lit (.int .u8 17), .lit (.int .u8 4), .lit (.int .u8 62), .lit (.int .u8 47), .lit (.int .u8 59), .lit (.int .u8 36), .lit (.int .u8 45), .lit (.int .u8 43), .lit (.int .u8 51), .lit (.int .u8 22), .lit (.int .u8 53), .lit (.int .u8 39), .lit (.int .u8 33), .lit (.int .u8 30), .lit (.int .u8 24), .lit (.int .u8 18), .lit (.int .u8 12), .lit (.int .u8 5), .lit (.int .u8 63), .lit (.int .u8 55), .lit (.int .u8 48), .lit (.int .u8 27), .lit (.int .u8 60), .lit (.int .u8 41), .lit (.int .u8 37), .lit (.int .u8 16), .lit (.int .u8 46), .lit (.int .u8 35), .lit (.int .u8 44), .lit (.int .u8 21), .lit (.int .u8 52), .lit (.int .u8 32), .lit (.int .u8 23), .lit (.int .u8 11), .lit (.int .u8 54), .lit (.int .u8 26), .lit (.int .u8 40), .lit (.int .u8 15), .lit (.int .u8 34), .lit (.int .u8 20), .lit (.int .u8 31), .lit (.int .u8 10), .lit (.int .u8 25), .lit (.int .u8 14), .lit (.int .u8 19), .lit (.int .u8 9), .lit (.int .u8 13), .lit (.int .u8 8), .lit (.int .u8 7), .lit (.int .u8 6)]

/-- 'fescuelaw09.FlowTells': WHATEVER THE INPUT: true; the input reads as it did. -/
def flowTellsSpec : ChangeSpec := { name := "flowTells", fn := fun _ => fun
  | [d1, d2, d3] => { results := [.lit (.bool true)], args := [d1, d2, d3] }
  | _ => none }
def flowTellsRow : OpenClaim := { program := "ytjbnabjjbofhjaadoor", sum := "a0994adc0a450b94b4acdbf836613ca213d3973c188b8216e56428862fa07f9d", func := "fescue/fescuelaw09.FlowTells", spec := "flowTells", unfollowed := true, recurses := true, named := ["fescue/shape.table"], apart := false, laid := [("fescue/shape.table", laid_fescue_shape_table)] }
def FlowTellsSaid : Prop := flowTellsRow.holds Tryd.pinned (OpenSpec.ofChange flowTellsSpec)

/-- ITS FALSE NEIGHBOUR: 'it returns false'. Refute it at one input. -/
def flowTellsWrong : ChangeSpec := { name := "flowTells", fn := fun _ => fun
  | [d1, d2, d3] => { results := [.lit (.bool false)], args := [d1, d2, d3] }
  | _ => none }
def FlowTellsWrongFalsely : Prop := flowTellsRow.holds Tryd.pinned (OpenSpec.ofChange flowTellsWrong)

/-- 'fescuelaw09.FlowRounds': WHATEVER THE INPUT: true; the input reads as it did. -/
def flowRoundsSpec : ChangeSpec := { name := "flowRounds", fn := fun _ => fun
  | [d1, d2, d3] => { results := [.lit (.bool true)], args := [d1, d2, d3] }
  | _ => none }
def flowRoundsRow : OpenClaim := { program := "ytjbnabjjbofhjaadoor", sum := "a0994adc0a450b94b4acdbf836613ca213d3973c188b8216e56428862fa07f9d", func := "fescue/fescuelaw09.FlowRounds", spec := "flowRounds", unfollowed := true, recurses := true, named := ["fescue/shape.table"], apart := false, laid := [("fescue/shape.table", laid_fescue_shape_table)] }
def FlowRoundsSaid : Prop := flowRoundsRow.holds Tryd.pinned (OpenSpec.ofChange flowRoundsSpec)

/-- ITS FALSE NEIGHBOUR: 'it returns false'. Refute it at one input. -/
def flowRoundsWrong : ChangeSpec := { name := "flowRounds", fn := fun _ => fun
  | [d1, d2, d3] => { results := [.lit (.bool false)], args := [d1, d2, d3] }
  | _ => none }
def FlowRoundsWrongFalsely : Prop := flowRoundsRow.holds Tryd.pinned (OpenSpec.ofChange flowRoundsWrong)

/-- 'fescuelaw09.FlowNames': WHATEVER THE INPUT: true; the input reads as it did. -/
def flowNamesSpec : ChangeSpec := { name := "flowNames", fn := fun _ => fun
  | [] => { results := [.lit (.bool true)], args := [] }
  | _ => none }
def flowNamesRow : OpenClaim := { program := "ytjbnabjjbofhjaadoor", sum := "a0994adc0a450b94b4acdbf836613ca213d3973c188b8216e56428862fa07f9d", func := "fescue/fescuelaw09.FlowNames", spec := "flowNames", unfollowed := true, recurses := true, named := ["fescue/shape.table"], apart := false, laid := [("fescue/shape.table", laid_fescue_shape_table)] }
def FlowNamesSaid : Prop := flowNamesRow.holds Tryd.pinned (OpenSpec.ofChange flowNamesSpec)

/-- ITS FALSE NEIGHBOUR: 'it returns false'. Refute it at one input. -/
def flowNamesWrong : ChangeSpec := { name := "flowNames", fn := fun _ => fun
  | [] => { results := [.lit (.bool false)], args := [] }
  | _ => none }
def FlowNamesWrongFalsely : Prop := flowNamesRow.holds Tryd.pinned (OpenSpec.ofChange flowNamesWrong)

/-- 'fescuelaw09.FlowBoth': WHATEVER THE INPUT: true; the input reads as it did. -/
def flowBothSpec : ChangeSpec := { name := "flowBoth", fn := fun _ => fun
  | [d1, d2, d3, d4] => { results := [.lit (.bool true)], args := [d1, d2, d3, d4] }
  | _ => none }
def flowBothRow : OpenClaim := { program := "ytjbnabjjbofhjaadoor", sum := "a0994adc0a450b94b4acdbf836613ca213d3973c188b8216e56428862fa07f9d", func := "fescue/fescuelaw09.FlowBoth", spec := "flowBoth", unfollowed := true, recurses := true, named := ["fescue/shape.table"], apart := false, laid := [("fescue/shape.table", laid_fescue_shape_table)] }
def FlowBothSaid : Prop := flowBothRow.holds Tryd.pinned (OpenSpec.ofChange flowBothSpec)

/-- ITS FALSE NEIGHBOUR: 'it returns false'. Refute it at one input. -/
def flowBothWrong : ChangeSpec := { name := "flowBoth", fn := fun _ => fun
  | [d1, d2, d3, d4] => { results := [.lit (.bool false)], args := [d1, d2, d3, d4] }
  | _ => none }
def FlowBothWrongFalsely : Prop := flowBothRow.holds Tryd.pinned (OpenSpec.ofChange flowBothWrong)

/-- 'fescuelaw09.FlowOrder': WHATEVER THE INPUT: true; the input reads as it did. -/
def flowOrderSpec : ChangeSpec := { name := "flowOrder", fn := fun _ => fun
  | [d1, d2, d3, d4] => { results := [.lit (.bool true)], args := [d1, d2, d3, d4] }
  | _ => none }
def flowOrderRow : OpenClaim := { program := "ytjbnabjjbofhjaadoor", sum := "a0994adc0a450b94b4acdbf836613ca213d3973c188b8216e56428862fa07f9d", func := "fescue/fescuelaw09.FlowOrder", spec := "flowOrder", unfollowed := true, recurses := true, named := ["fescue/shape.table"], apart := false, laid := [("fescue/shape.table", laid_fescue_shape_table)] }
def FlowOrderSaid : Prop := flowOrderRow.holds Tryd.pinned (OpenSpec.ofChange flowOrderSpec)

/-- ITS FALSE NEIGHBOUR: 'it returns false'. Refute it at one input. -/
def flowOrderWrong : ChangeSpec := { name := "flowOrder", fn := fun _ => fun
  | [d1, d2, d3, d4] => { results := [.lit (.bool false)], args := [d1, d2, d3, d4] }
  | _ => none }
def FlowOrderWrongFalsely : Prop := flowOrderRow.holds Tryd.pinned (OpenSpec.ofChange flowOrderWrong)

/-- 'fescuelaw10.DomLaws': WHATEVER THE INPUT: true; the input reads as it did. -/
def domLawsSpec : ChangeSpec := { name := "domLaws", fn := fun _ => fun
  | [d1, d2, d3] => { results := [.lit (.bool true)], args := [d1, d2, d3] }
  | _ => none }
def domLawsRow : OpenClaim := { program := "ytjbnabjjbofhjaadoor", sum := "a0994adc0a450b94b4acdbf836613ca213d3973c188b8216e56428862fa07f9d", func := "fescue/fescuelaw10.DomLaws", spec := "domLaws", unfollowed := true, recurses := true, named := ["fescue/shape.table"], apart := false, laid := [("fescue/shape.table", laid_fescue_shape_table)] }
def DomLawsSaid : Prop := domLawsRow.holds Tryd.pinned (OpenSpec.ofChange domLawsSpec)

/-- ITS FALSE NEIGHBOUR: 'it returns false'. Refute it at one input. -/
def domLawsWrong : ChangeSpec := { name := "domLaws", fn := fun _ => fun
  | [d1, d2, d3] => { results := [.lit (.bool false)], args := [d1, d2, d3] }
  | _ => none }
def DomLawsWrongFalsely : Prop := domLawsRow.holds Tryd.pinned (OpenSpec.ofChange domLawsWrong)

/-- 'fescuelaw10.DomNexts': WHATEVER THE INPUT: true; the input reads as it did. -/
def domNextsSpec : ChangeSpec := { name := "domNexts", fn := fun _ => fun
  | [d1, d2, d3, d4] => { results := [.lit (.bool true)], args := [d1, d2, d3, d4] }
  | _ => none }
def domNextsRow : OpenClaim := { program := "ytjbnabjjbofhjaadoor", sum := "a0994adc0a450b94b4acdbf836613ca213d3973c188b8216e56428862fa07f9d", func := "fescue/fescuelaw10.DomNexts", spec := "domNexts", unfollowed := true, recurses := true, named := ["fescue/shape.table"], apart := false, laid := [("fescue/shape.table", laid_fescue_shape_table)] }
def DomNextsSaid : Prop := domNextsRow.holds Tryd.pinned (OpenSpec.ofChange domNextsSpec)

/-- ITS FALSE NEIGHBOUR: 'it returns false'. Refute it at one input. -/
def domNextsWrong : ChangeSpec := { name := "domNexts", fn := fun _ => fun
  | [d1, d2, d3, d4] => { results := [.lit (.bool false)], args := [d1, d2, d3, d4] }
  | _ => none }
def DomNextsWrongFalsely : Prop := domNextsRow.holds Tryd.pinned (OpenSpec.ofChange domNextsWrong)

/-- 'fescuelaw10.DomAhead': WHATEVER THE INPUT: true; the input reads as it did. -/
def domAheadSpec : ChangeSpec := { name := "domAhead", fn := fun _ => fun
  | [d1, d2, d3, d4] => { results := [.lit (.bool true)], args := [d1, d2, d3, d4] }
  | _ => none }
def domAheadRow : OpenClaim := { program := "ytjbnabjjbofhjaadoor", sum := "a0994adc0a450b94b4acdbf836613ca213d3973c188b8216e56428862fa07f9d", func := "fescue/fescuelaw10.DomAhead", spec := "domAhead", unfollowed := true, recurses := true, named := ["fescue/shape.table"], apart := false, laid := [("fescue/shape.table", laid_fescue_shape_table)] }
def DomAheadSaid : Prop := domAheadRow.holds Tryd.pinned (OpenSpec.ofChange domAheadSpec)

/-- ITS FALSE NEIGHBOUR: 'it returns false'. Refute it at one input. -/
def domAheadWrong : ChangeSpec := { name := "domAhead", fn := fun _ => fun
  | [d1, d2, d3, d4] => { results := [.lit (.bool false)], args := [d1, d2, d3, d4] }
  | _ => none }
def DomAheadWrongFalsely : Prop := domAheadRow.holds Tryd.pinned (OpenSpec.ofChange domAheadWrong)

/-- 'fescuelaw10.DomNames': WHATEVER THE INPUT: true; the input reads as it did. -/
def domNamesSpec : ChangeSpec := { name := "domNames", fn := fun _ => fun
  | [] => { results := [.lit (.bool true)], args := [] }
  | _ => none }
def domNamesRow : OpenClaim := { program := "ytjbnabjjbofhjaadoor", sum := "a0994adc0a450b94b4acdbf836613ca213d3973c188b8216e56428862fa07f9d", func := "fescue/fescuelaw10.DomNames", spec := "domNames", unfollowed := true, recurses := true, named := ["fescue/shape.table"], apart := false, laid := [("fescue/shape.table", laid_fescue_shape_table)] }
def DomNamesSaid : Prop := domNamesRow.holds Tryd.pinned (OpenSpec.ofChange domNamesSpec)

/-- ITS FALSE NEIGHBOUR: 'it returns false'. Refute it at one input. -/
def domNamesWrong : ChangeSpec := { name := "domNames", fn := fun _ => fun
  | [] => { results := [.lit (.bool false)], args := [] }
  | _ => none }
def DomNamesWrongFalsely : Prop := domNamesRow.holds Tryd.pinned (OpenSpec.ofChange domNamesWrong)

/-- 'fescuelaw10.DomPlaces': WHATEVER THE INPUT: true; the input reads as it did. -/
def domPlacesSpec : ChangeSpec := { name := "domPlaces", fn := fun _ => fun
  | [d1, d2, d3] => { results := [.lit (.bool true)], args := [d1, d2, d3] }
  | _ => none }
def domPlacesRow : OpenClaim := { program := "ytjbnabjjbofhjaadoor", sum := "a0994adc0a450b94b4acdbf836613ca213d3973c188b8216e56428862fa07f9d", func := "fescue/fescuelaw10.DomPlaces", spec := "domPlaces", unfollowed := true, recurses := true, named := ["fescue/shape.table"], apart := false, laid := [("fescue/shape.table", laid_fescue_shape_table)] }
def DomPlacesSaid : Prop := domPlacesRow.holds Tryd.pinned (OpenSpec.ofChange domPlacesSpec)

/-- ITS FALSE NEIGHBOUR: 'it returns false'. Refute it at one input. -/
def domPlacesWrong : ChangeSpec := { name := "domPlaces", fn := fun _ => fun
  | [d1, d2, d3] => { results := [.lit (.bool false)], args := [d1, d2, d3] }
  | _ => none }
def DomPlacesWrongFalsely : Prop := domPlacesRow.holds Tryd.pinned (OpenSpec.ofChange domPlacesWrong)

/-- 'fescuelaw11.LiveNames': WHATEVER THE INPUT: true; the input reads as it did. -/
def liveNamesSpec : ChangeSpec := { name := "liveNames", fn := fun _ => fun
  | [] => { results := [.lit (.bool true)], args := [] }
  | _ => none }
def liveNamesRow : OpenClaim := { program := "ytjbnabjjbofhjaadoor", sum := "a0994adc0a450b94b4acdbf836613ca213d3973c188b8216e56428862fa07f9d", func := "fescue/fescuelaw11.LiveNames", spec := "liveNames", unfollowed := true, recurses := true, named := ["fescue/shape.table", "math/bits.deBruijn64tab"], apart := false, laid := [("math/bits.deBruijn64tab", laid_math_bits_deBruijn64tab), ("fescue/shape.table", laid_fescue_shape_table)] }
def LiveNamesSaid : Prop := liveNamesRow.holds Tryd.pinned (OpenSpec.ofChange liveNamesSpec)

/-- ITS FALSE NEIGHBOUR: 'it returns false'. Refute it at one input. -/
def liveNamesWrong : ChangeSpec := { name := "liveNames", fn := fun _ => fun
  | [] => { results := [.lit (.bool false)], args := [] }
  | _ => none }
def LiveNamesWrongFalsely : Prop := liveNamesRow.holds Tryd.pinned (OpenSpec.ofChange liveNamesWrong)

/-- 'fescuelaw11.LiveStep': WHATEVER THE INPUT: true; the input reads as it did. -/
def liveStepSpec : ChangeSpec := { name := "liveStep", fn := fun _ => fun
  | [d1, d2, d3, d4] => { results := [.lit (.bool true)], args := [d1, d2, d3, d4] }
  | _ => none }
def liveStepRow : OpenClaim := { program := "ytjbnabjjbofhjaadoor", sum := "a0994adc0a450b94b4acdbf836613ca213d3973c188b8216e56428862fa07f9d", func := "fescue/fescuelaw11.LiveStep", spec := "liveStep", unfollowed := true, recurses := true, named := ["fescue/shape.table", "math/bits.deBruijn64tab"], apart := false, laid := [("math/bits.deBruijn64tab", laid_math_bits_deBruijn64tab), ("fescue/shape.table", laid_fescue_shape_table)] }
def LiveStepSaid : Prop := liveStepRow.holds Tryd.pinned (OpenSpec.ofChange liveStepSpec)

/-- ITS FALSE NEIGHBOUR: 'it returns false'. Refute it at one input. -/
def liveStepWrong : ChangeSpec := { name := "liveStep", fn := fun _ => fun
  | [d1, d2, d3, d4] => { results := [.lit (.bool false)], args := [d1, d2, d3, d4] }
  | _ => none }
def LiveStepWrongFalsely : Prop := liveStepRow.holds Tryd.pinned (OpenSpec.ofChange liveStepWrong)

/-- 'fescuelaw11.LiveEnd': WHATEVER THE INPUT: true; the input reads as it did. -/
def liveEndSpec : ChangeSpec := { name := "liveEnd", fn := fun _ => fun
  | [d1, d2, d3] => { results := [.lit (.bool true)], args := [d1, d2, d3] }
  | _ => none }
def liveEndRow : OpenClaim := { program := "ytjbnabjjbofhjaadoor", sum := "a0994adc0a450b94b4acdbf836613ca213d3973c188b8216e56428862fa07f9d", func := "fescue/fescuelaw11.LiveEnd", spec := "liveEnd", unfollowed := true, recurses := true, named := ["fescue/shape.table", "math/bits.deBruijn64tab"], apart := false, laid := [("math/bits.deBruijn64tab", laid_math_bits_deBruijn64tab), ("fescue/shape.table", laid_fescue_shape_table)] }
def LiveEndSaid : Prop := liveEndRow.holds Tryd.pinned (OpenSpec.ofChange liveEndSpec)

/-- ITS FALSE NEIGHBOUR: 'it returns false'. Refute it at one input. -/
def liveEndWrong : ChangeSpec := { name := "liveEnd", fn := fun _ => fun
  | [d1, d2, d3] => { results := [.lit (.bool false)], args := [d1, d2, d3] }
  | _ => none }
def LiveEndWrongFalsely : Prop := liveEndRow.holds Tryd.pinned (OpenSpec.ofChange liveEndWrong)

/-- 'fescuelaw11.LiveWays': WHATEVER THE INPUT: true; the input reads as it did. -/
def liveWaysSpec : ChangeSpec := { name := "liveWays", fn := fun _ => fun
  | [d1, d2, d3, d4] => { results := [.lit (.bool true)], args := [d1, d2, d3, d4] }
  | _ => none }
def liveWaysRow : OpenClaim := { program := "ytjbnabjjbofhjaadoor", sum := "a0994adc0a450b94b4acdbf836613ca213d3973c188b8216e56428862fa07f9d", func := "fescue/fescuelaw11.LiveWays", spec := "liveWays", unfollowed := true, recurses := true, named := ["fescue/shape.table", "math/bits.deBruijn64tab"], apart := false, laid := [("math/bits.deBruijn64tab", laid_math_bits_deBruijn64tab), ("fescue/shape.table", laid_fescue_shape_table)] }
def LiveWaysSaid : Prop := liveWaysRow.holds Tryd.pinned (OpenSpec.ofChange liveWaysSpec)

/-- ITS FALSE NEIGHBOUR: 'it returns false'. Refute it at one input. -/
def liveWaysWrong : ChangeSpec := { name := "liveWays", fn := fun _ => fun
  | [d1, d2, d3, d4] => { results := [.lit (.bool false)], args := [d1, d2, d3, d4] }
  | _ => none }
def LiveWaysWrongFalsely : Prop := liveWaysRow.holds Tryd.pinned (OpenSpec.ofChange liveWaysWrong)

/- THE SECOND FORM. 'bulk': how many values and letters a reading holds, each counted each time it is reached (what is shared counts as often as it is met; a slice's spare places count too). A statement '..UptoSaid' is the law's where the arguments, and the package variables that the reading takes, are together of bulk at most 1048576: NARROWER than '..Said'. Prove '..Said' where nothing that the law and all that it calls make is longer than what came in: it says more and counts as full. Else prove '..UptoSaid'. A law counts once. -/
mutual
def uptoBulk {H : Type} : DataW H → Nat
  | .lit (.string bytes) => bytes.length + 1
  | .lit _ => 1
  | .nil => 1
  | .ptr d => uptoBulk d + 1
  | .slice elems spare => uptoBulkAll elems + uptoBulkAll spare + 1
  | .agg parts => uptoBulkAll parts + 1
  | .iface _ d => uptoBulk d + 1
  | .map entries => uptoBulkEntries entries + 1
  | .held _ => 1
def uptoBulkAll {H : Type} : List (DataW H) → Nat
  | [] => 0
  | d :: r => uptoBulk d + uptoBulkAll r
def uptoBulkEntries {H : Type} : List (Lit × DataW H) → Nat
  | [] => 0
  | x :: r => uptoBulkEntry x + uptoBulkEntries r
def uptoBulkEntry {H : Type} : Lit × DataW H → Nat
  | (.string bytes, d) => bytes.length + uptoBulk d + 1
  | (_, d) => uptoBulk d + 1
 end
def uptoSmall : (H : Type) → List (DataW H) → Bool := fun _ ds => decide (uptoBulkAll ds ≤ 1048576)
def OpenSpec.upto (s : _root_.Go.ChangeSpec) : _root_.Go.OpenSpec := { _root_.Go.OpenSpec.ofChange s with cond := some uptoSmall }

/-- 'fescuelaw09.FlowTells', WHERE WHAT IT READS IS OF BULK AT MOST 1048576: true; the input reads as it did. -/
def flowTellsUptoRow : OpenClaim := { program := "ytjbnabjjbofhjaadoor", sum := "a0994adc0a450b94b4acdbf836613ca213d3973c188b8216e56428862fa07f9d", func := "fescue/fescuelaw09.FlowTells", spec := "flowTells", unfollowed := true, recurses := true, named := ["fescue/shape.table"], apart := false, laid := [("fescue/shape.table", laid_fescue_shape_table)], narrowed := true }
def FlowTellsUptoSaid : Prop := flowTellsUptoRow.holds Tryd.pinned (OpenSpec.upto flowTellsSpec)

/-- 'fescuelaw09.FlowRounds', WHERE WHAT IT READS IS OF BULK AT MOST 1048576: true; the input reads as it did. -/
def flowRoundsUptoRow : OpenClaim := { program := "ytjbnabjjbofhjaadoor", sum := "a0994adc0a450b94b4acdbf836613ca213d3973c188b8216e56428862fa07f9d", func := "fescue/fescuelaw09.FlowRounds", spec := "flowRounds", unfollowed := true, recurses := true, named := ["fescue/shape.table"], apart := false, laid := [("fescue/shape.table", laid_fescue_shape_table)], narrowed := true }
def FlowRoundsUptoSaid : Prop := flowRoundsUptoRow.holds Tryd.pinned (OpenSpec.upto flowRoundsSpec)

/-- 'fescuelaw09.FlowNames', WHERE WHAT IT READS IS OF BULK AT MOST 1048576: true; the input reads as it did. -/
def flowNamesUptoRow : OpenClaim := { program := "ytjbnabjjbofhjaadoor", sum := "a0994adc0a450b94b4acdbf836613ca213d3973c188b8216e56428862fa07f9d", func := "fescue/fescuelaw09.FlowNames", spec := "flowNames", unfollowed := true, recurses := true, named := ["fescue/shape.table"], apart := false, laid := [("fescue/shape.table", laid_fescue_shape_table)], narrowed := true }
def FlowNamesUptoSaid : Prop := flowNamesUptoRow.holds Tryd.pinned (OpenSpec.upto flowNamesSpec)

/-- 'fescuelaw09.FlowBoth', WHERE WHAT IT READS IS OF BULK AT MOST 1048576: true; the input reads as it did. -/
def flowBothUptoRow : OpenClaim := { program := "ytjbnabjjbofhjaadoor", sum := "a0994adc0a450b94b4acdbf836613ca213d3973c188b8216e56428862fa07f9d", func := "fescue/fescuelaw09.FlowBoth", spec := "flowBoth", unfollowed := true, recurses := true, named := ["fescue/shape.table"], apart := false, laid := [("fescue/shape.table", laid_fescue_shape_table)], narrowed := true }
def FlowBothUptoSaid : Prop := flowBothUptoRow.holds Tryd.pinned (OpenSpec.upto flowBothSpec)

/-- 'fescuelaw09.FlowOrder', WHERE WHAT IT READS IS OF BULK AT MOST 1048576: true; the input reads as it did. -/
def flowOrderUptoRow : OpenClaim := { program := "ytjbnabjjbofhjaadoor", sum := "a0994adc0a450b94b4acdbf836613ca213d3973c188b8216e56428862fa07f9d", func := "fescue/fescuelaw09.FlowOrder", spec := "flowOrder", unfollowed := true, recurses := true, named := ["fescue/shape.table"], apart := false, laid := [("fescue/shape.table", laid_fescue_shape_table)], narrowed := true }
def FlowOrderUptoSaid : Prop := flowOrderUptoRow.holds Tryd.pinned (OpenSpec.upto flowOrderSpec)

/-- 'fescuelaw10.DomLaws', WHERE WHAT IT READS IS OF BULK AT MOST 1048576: true; the input reads as it did. -/
def domLawsUptoRow : OpenClaim := { program := "ytjbnabjjbofhjaadoor", sum := "a0994adc0a450b94b4acdbf836613ca213d3973c188b8216e56428862fa07f9d", func := "fescue/fescuelaw10.DomLaws", spec := "domLaws", unfollowed := true, recurses := true, named := ["fescue/shape.table"], apart := false, laid := [("fescue/shape.table", laid_fescue_shape_table)], narrowed := true }
def DomLawsUptoSaid : Prop := domLawsUptoRow.holds Tryd.pinned (OpenSpec.upto domLawsSpec)

/-- 'fescuelaw10.DomNexts', WHERE WHAT IT READS IS OF BULK AT MOST 1048576: true; the input reads as it did. -/
def domNextsUptoRow : OpenClaim := { program := "ytjbnabjjbofhjaadoor", sum := "a0994adc0a450b94b4acdbf836613ca213d3973c188b8216e56428862fa07f9d", func := "fescue/fescuelaw10.DomNexts", spec := "domNexts", unfollowed := true, recurses := true, named := ["fescue/shape.table"], apart := false, laid := [("fescue/shape.table", laid_fescue_shape_table)], narrowed := true }
def DomNextsUptoSaid : Prop := domNextsUptoRow.holds Tryd.pinned (OpenSpec.upto domNextsSpec)

/-- 'fescuelaw10.DomAhead', WHERE WHAT IT READS IS OF BULK AT MOST 1048576: true; the input reads as it did. -/
def domAheadUptoRow : OpenClaim := { program := "ytjbnabjjbofhjaadoor", sum := "a0994adc0a450b94b4acdbf836613ca213d3973c188b8216e56428862fa07f9d", func := "fescue/fescuelaw10.DomAhead", spec := "domAhead", unfollowed := true, recurses := true, named := ["fescue/shape.table"], apart := false, laid := [("fescue/shape.table", laid_fescue_shape_table)], narrowed := true }
def DomAheadUptoSaid : Prop := domAheadUptoRow.holds Tryd.pinned (OpenSpec.upto domAheadSpec)

/-- 'fescuelaw10.DomNames', WHERE WHAT IT READS IS OF BULK AT MOST 1048576: true; the input reads as it did. -/
def domNamesUptoRow : OpenClaim := { program := "ytjbnabjjbofhjaadoor", sum := "a0994adc0a450b94b4acdbf836613ca213d3973c188b8216e56428862fa07f9d", func := "fescue/fescuelaw10.DomNames", spec := "domNames", unfollowed := true, recurses := true, named := ["fescue/shape.table"], apart := false, laid := [("fescue/shape.table", laid_fescue_shape_table)], narrowed := true }
def DomNamesUptoSaid : Prop := domNamesUptoRow.holds Tryd.pinned (OpenSpec.upto domNamesSpec)

/-- 'fescuelaw10.DomPlaces', WHERE WHAT IT READS IS OF BULK AT MOST 1048576: true; the input reads as it did. -/
def domPlacesUptoRow : OpenClaim := { program := "ytjbnabjjbofhjaadoor", sum := "a0994adc0a450b94b4acdbf836613ca213d3973c188b8216e56428862fa07f9d", func := "fescue/fescuelaw10.DomPlaces", spec := "domPlaces", unfollowed := true, recurses := true, named := ["fescue/shape.table"], apart := false, laid := [("fescue/shape.table", laid_fescue_shape_table)], narrowed := true }
def DomPlacesUptoSaid : Prop := domPlacesUptoRow.holds Tryd.pinned (OpenSpec.upto domPlacesSpec)

/-- 'fescuelaw11.LiveNames', WHERE WHAT IT READS IS OF BULK AT MOST 1048576: true; the input reads as it did. -/
def liveNamesUptoRow : OpenClaim := { program := "ytjbnabjjbofhjaadoor", sum := "a0994adc0a450b94b4acdbf836613ca213d3973c188b8216e56428862fa07f9d", func := "fescue/fescuelaw11.LiveNames", spec := "liveNames", unfollowed := true, recurses := true, named := ["fescue/shape.table", "math/bits.deBruijn64tab"], apart := false, laid := [("math/bits.deBruijn64tab", laid_math_bits_deBruijn64tab), ("fescue/shape.table", laid_fescue_shape_table)], narrowed := true }
def LiveNamesUptoSaid : Prop := liveNamesUptoRow.holds Tryd.pinned (OpenSpec.upto liveNamesSpec)

/-- 'fescuelaw11.LiveStep', WHERE WHAT IT READS IS OF BULK AT MOST 1048576: true; the input reads as it did. -/
def liveStepUptoRow : OpenClaim := { program := "ytjbnabjjbofhjaadoor", sum := "a0994adc0a450b94b4acdbf836613ca213d3973c188b8216e56428862fa07f9d", func := "fescue/fescuelaw11.LiveStep", spec := "liveStep", unfollowed := true, recurses := true, named := ["fescue/shape.table", "math/bits.deBruijn64tab"], apart := false, laid := [("math/bits.deBruijn64tab", laid_math_bits_deBruijn64tab), ("fescue/shape.table", laid_fescue_shape_table)], narrowed := true }
def LiveStepUptoSaid : Prop := liveStepUptoRow.holds Tryd.pinned (OpenSpec.upto liveStepSpec)

/-- 'fescuelaw11.LiveEnd', WHERE WHAT IT READS IS OF BULK AT MOST 1048576: true; the input reads as it did. -/
def liveEndUptoRow : OpenClaim := { program := "ytjbnabjjbofhjaadoor", sum := "a0994adc0a450b94b4acdbf836613ca213d3973c188b8216e56428862fa07f9d", func := "fescue/fescuelaw11.LiveEnd", spec := "liveEnd", unfollowed := true, recurses := true, named := ["fescue/shape.table", "math/bits.deBruijn64tab"], apart := false, laid := [("math/bits.deBruijn64tab", laid_math_bits_deBruijn64tab), ("fescue/shape.table", laid_fescue_shape_table)], narrowed := true }
def LiveEndUptoSaid : Prop := liveEndUptoRow.holds Tryd.pinned (OpenSpec.upto liveEndSpec)

/-- 'fescuelaw11.LiveWays', WHERE WHAT IT READS IS OF BULK AT MOST 1048576: true; the input reads as it did. -/
def liveWaysUptoRow : OpenClaim := { program := "ytjbnabjjbofhjaadoor", sum := "a0994adc0a450b94b4acdbf836613ca213d3973c188b8216e56428862fa07f9d", func := "fescue/fescuelaw11.LiveWays", spec := "liveWays", unfollowed := true, recurses := true, named := ["fescue/shape.table", "math/bits.deBruijn64tab"], apart := false, laid := [("math/bits.deBruijn64tab", laid_math_bits_deBruijn64tab), ("fescue/shape.table", laid_fescue_shape_table)], narrowed := true }
def LiveWaysUptoSaid : Prop := liveWaysUptoRow.holds Tryd.pinned (OpenSpec.upto liveWaysSpec)

end Rows
end Go.Proofs.YtjbnabjjbofhjaaDoor
