/-
  DERIVED. GIVEN WITH THE SEED: THE CARDS: each row of YtjbnabjjbofhjaaDoorRows.lean that lists a variable, with what it lists TIED to the program's text (the seventh form; the later family's looks); each row that meets fmt, with fmt's text TOLD by the authors' own Lean function (tested against real Go, not proved from fmt's source: count such statements apart). THE CARD IS WHAT COUNTS. Prove the row's statement (the work); the ties are given (YtjbnabjjbofhjaaDoorTie.lean); close each card by the builder's one call (the guide's Derived/Test/ToyasCard.lean, 'card_holds'). Laid BY PROGRAM, IN A SANDBOX (cutbox-door.mjs). By AI agents, Wed Nov 11 2026. No macro, syntax, notation, axiom, sorry.
-/
import Derived.Test.YtjbnabjjbofhjaaDoorRows
import GoSem.ClaimSeven
namespace Go.Proofs.YtjbnabjjbofhjaaDoor
namespace Rows

/-- THE TIED CARD OF 'fescuelaw09.FlowTells'. -/
def flowTellsCard : Claim7 := { stood := { row := flowTellsRow, standIns := [], harness := (true, "69f15647d6a06601adf88fa26cd53a92ad2bf6e04b55aab0256bd153ba502372"), looks := false }, kinds := [], alts := [], laidByText := true, laidKinds := [.data], laidTests := true, laidLooks := .later }
def FlowTellsCardSaid : Prop := Claim7.holds Tryd.pinned (.plain (OpenSpec.ofChange flowTellsSpec)) flowTellsCard

/-- THE TIED CARD OF 'fescuelaw09.FlowRounds'. -/
def flowRoundsCard : Claim7 := { stood := { row := flowRoundsRow, standIns := [], harness := (true, "69f15647d6a06601adf88fa26cd53a92ad2bf6e04b55aab0256bd153ba502372"), looks := false }, kinds := [], alts := [], laidByText := true, laidKinds := [.data], laidTests := true, laidLooks := .later }
def FlowRoundsCardSaid : Prop := Claim7.holds Tryd.pinned (.plain (OpenSpec.ofChange flowRoundsSpec)) flowRoundsCard

/-- THE TIED CARD OF 'fescuelaw09.FlowNames'. -/
def flowNamesCard : Claim7 := { stood := { row := flowNamesRow, standIns := [], harness := (true, "69f15647d6a06601adf88fa26cd53a92ad2bf6e04b55aab0256bd153ba502372"), looks := false }, kinds := [], alts := [], laidByText := true, laidKinds := [.data], laidTests := true, laidLooks := .later }
def FlowNamesCardSaid : Prop := Claim7.holds Tryd.pinned (.plain (OpenSpec.ofChange flowNamesSpec)) flowNamesCard

/-- THE TIED CARD OF 'fescuelaw09.FlowBoth'. -/
def flowBothCard : Claim7 := { stood := { row := flowBothRow, standIns := [], harness := (true, "69f15647d6a06601adf88fa26cd53a92ad2bf6e04b55aab0256bd153ba502372"), looks := false }, kinds := [], alts := [], laidByText := true, laidKinds := [.data], laidTests := true, laidLooks := .later }
def FlowBothCardSaid : Prop := Claim7.holds Tryd.pinned (.plain (OpenSpec.ofChange flowBothSpec)) flowBothCard

/-- THE TIED CARD OF 'fescuelaw09.FlowOrder'. -/
def flowOrderCard : Claim7 := { stood := { row := flowOrderRow, standIns := [], harness := (true, "69f15647d6a06601adf88fa26cd53a92ad2bf6e04b55aab0256bd153ba502372"), looks := false }, kinds := [], alts := [], laidByText := true, laidKinds := [.data], laidTests := true, laidLooks := .later }
def FlowOrderCardSaid : Prop := Claim7.holds Tryd.pinned (.plain (OpenSpec.ofChange flowOrderSpec)) flowOrderCard

/-- THE TIED CARD OF 'fescuelaw10.DomLaws'. -/
def domLawsCard : Claim7 := { stood := { row := domLawsRow, standIns := [], harness := (true, "69f15647d6a06601adf88fa26cd53a92ad2bf6e04b55aab0256bd153ba502372"), looks := false }, kinds := [], alts := [], laidByText := true, laidKinds := [.data], laidTests := true, laidLooks := .later }
def DomLawsCardSaid : Prop := Claim7.holds Tryd.pinned (.plain (OpenSpec.ofChange domLawsSpec)) domLawsCard

/-- THE TIED CARD OF 'fescuelaw10.DomNexts'. -/
def domNextsCard : Claim7 := { stood := { row := domNextsRow, standIns := [], harness := (true, "69f15647d6a06601adf88fa26cd53a92ad2bf6e04b55aab0256bd153ba502372"), looks := false }, kinds := [], alts := [], laidByText := true, laidKinds := [.data], laidTests := true, laidLooks := .later }
def DomNextsCardSaid : Prop := Claim7.holds Tryd.pinned (.plain (OpenSpec.ofChange domNextsSpec)) domNextsCard

/-- THE TIED CARD OF 'fescuelaw10.DomAhead'. -/
def domAheadCard : Claim7 := { stood := { row := domAheadRow, standIns := [], harness := (true, "69f15647d6a06601adf88fa26cd53a92ad2bf6e04b55aab0256bd153ba502372"), looks := false }, kinds := [], alts := [], laidByText := true, laidKinds := [.data], laidTests := true, laidLooks := .later }
def DomAheadCardSaid : Prop := Claim7.holds Tryd.pinned (.plain (OpenSpec.ofChange domAheadSpec)) domAheadCard

/-- THE TIED CARD OF 'fescuelaw10.DomNames'. -/
def domNamesCard : Claim7 := { stood := { row := domNamesRow, standIns := [], harness := (true, "69f15647d6a06601adf88fa26cd53a92ad2bf6e04b55aab0256bd153ba502372"), looks := false }, kinds := [], alts := [], laidByText := true, laidKinds := [.data], laidTests := true, laidLooks := .later }
def DomNamesCardSaid : Prop := Claim7.holds Tryd.pinned (.plain (OpenSpec.ofChange domNamesSpec)) domNamesCard

/-- THE TIED CARD OF 'fescuelaw10.DomPlaces'. -/
def domPlacesCard : Claim7 := { stood := { row := domPlacesRow, standIns := [], harness := (true, "69f15647d6a06601adf88fa26cd53a92ad2bf6e04b55aab0256bd153ba502372"), looks := false }, kinds := [], alts := [], laidByText := true, laidKinds := [.data], laidTests := true, laidLooks := .later }
def DomPlacesCardSaid : Prop := Claim7.holds Tryd.pinned (.plain (OpenSpec.ofChange domPlacesSpec)) domPlacesCard

/-- THE TIED CARD OF 'fescuelaw11.LiveNames'. -/
def liveNamesCard : Claim7 := { stood := { row := liveNamesRow, standIns := [], harness := (true, "69f15647d6a06601adf88fa26cd53a92ad2bf6e04b55aab0256bd153ba502372"), looks := false }, kinds := [], alts := [], laidByText := true, laidKinds := [.data, .data], laidTests := true, laidLooks := .later }
def LiveNamesCardSaid : Prop := Claim7.holds Tryd.pinned (.plain (OpenSpec.ofChange liveNamesSpec)) liveNamesCard

/-- THE TIED CARD OF 'fescuelaw11.LiveStep'. -/
def liveStepCard : Claim7 := { stood := { row := liveStepRow, standIns := [], harness := (true, "69f15647d6a06601adf88fa26cd53a92ad2bf6e04b55aab0256bd153ba502372"), looks := false }, kinds := [], alts := [], laidByText := true, laidKinds := [.data, .data], laidTests := true, laidLooks := .later }
def LiveStepCardSaid : Prop := Claim7.holds Tryd.pinned (.plain (OpenSpec.ofChange liveStepSpec)) liveStepCard

/-- THE TIED CARD OF 'fescuelaw11.LiveEnd'. -/
def liveEndCard : Claim7 := { stood := { row := liveEndRow, standIns := [], harness := (true, "69f15647d6a06601adf88fa26cd53a92ad2bf6e04b55aab0256bd153ba502372"), looks := false }, kinds := [], alts := [], laidByText := true, laidKinds := [.data, .data], laidTests := true, laidLooks := .later }
def LiveEndCardSaid : Prop := Claim7.holds Tryd.pinned (.plain (OpenSpec.ofChange liveEndSpec)) liveEndCard

/-- THE TIED CARD OF 'fescuelaw11.LiveWays'. -/
def liveWaysCard : Claim7 := { stood := { row := liveWaysRow, standIns := [], harness := (true, "69f15647d6a06601adf88fa26cd53a92ad2bf6e04b55aab0256bd153ba502372"), looks := false }, kinds := [], alts := [], laidByText := true, laidKinds := [.data, .data], laidTests := true, laidLooks := .later }
def LiveWaysCardSaid : Prop := Claim7.holds Tryd.pinned (.plain (OpenSpec.ofChange liveWaysSpec)) liveWaysCard

/-- THE SECOND FORM's CARD OF 'fescuelaw09.FlowTells'. -/
def flowTellsUptoCard : Claim7 := { stood := { row := flowTellsUptoRow, standIns := [], harness := (true, "69f15647d6a06601adf88fa26cd53a92ad2bf6e04b55aab0256bd153ba502372"), looks := false }, kinds := [], alts := [], laidByText := true, laidKinds := [.data], laidTests := true, laidLooks := .later }
def FlowTellsUptoCardSaid : Prop := Claim7.holds Tryd.pinned (.plain (OpenSpec.upto flowTellsSpec)) flowTellsUptoCard

/-- THE SECOND FORM's CARD OF 'fescuelaw09.FlowRounds'. -/
def flowRoundsUptoCard : Claim7 := { stood := { row := flowRoundsUptoRow, standIns := [], harness := (true, "69f15647d6a06601adf88fa26cd53a92ad2bf6e04b55aab0256bd153ba502372"), looks := false }, kinds := [], alts := [], laidByText := true, laidKinds := [.data], laidTests := true, laidLooks := .later }
def FlowRoundsUptoCardSaid : Prop := Claim7.holds Tryd.pinned (.plain (OpenSpec.upto flowRoundsSpec)) flowRoundsUptoCard

/-- THE SECOND FORM's CARD OF 'fescuelaw09.FlowNames'. -/
def flowNamesUptoCard : Claim7 := { stood := { row := flowNamesUptoRow, standIns := [], harness := (true, "69f15647d6a06601adf88fa26cd53a92ad2bf6e04b55aab0256bd153ba502372"), looks := false }, kinds := [], alts := [], laidByText := true, laidKinds := [.data], laidTests := true, laidLooks := .later }
def FlowNamesUptoCardSaid : Prop := Claim7.holds Tryd.pinned (.plain (OpenSpec.upto flowNamesSpec)) flowNamesUptoCard

/-- THE SECOND FORM's CARD OF 'fescuelaw09.FlowBoth'. -/
def flowBothUptoCard : Claim7 := { stood := { row := flowBothUptoRow, standIns := [], harness := (true, "69f15647d6a06601adf88fa26cd53a92ad2bf6e04b55aab0256bd153ba502372"), looks := false }, kinds := [], alts := [], laidByText := true, laidKinds := [.data], laidTests := true, laidLooks := .later }
def FlowBothUptoCardSaid : Prop := Claim7.holds Tryd.pinned (.plain (OpenSpec.upto flowBothSpec)) flowBothUptoCard

/-- THE SECOND FORM's CARD OF 'fescuelaw09.FlowOrder'. -/
def flowOrderUptoCard : Claim7 := { stood := { row := flowOrderUptoRow, standIns := [], harness := (true, "69f15647d6a06601adf88fa26cd53a92ad2bf6e04b55aab0256bd153ba502372"), looks := false }, kinds := [], alts := [], laidByText := true, laidKinds := [.data], laidTests := true, laidLooks := .later }
def FlowOrderUptoCardSaid : Prop := Claim7.holds Tryd.pinned (.plain (OpenSpec.upto flowOrderSpec)) flowOrderUptoCard

/-- THE SECOND FORM's CARD OF 'fescuelaw10.DomLaws'. -/
def domLawsUptoCard : Claim7 := { stood := { row := domLawsUptoRow, standIns := [], harness := (true, "69f15647d6a06601adf88fa26cd53a92ad2bf6e04b55aab0256bd153ba502372"), looks := false }, kinds := [], alts := [], laidByText := true, laidKinds := [.data], laidTests := true, laidLooks := .later }
def DomLawsUptoCardSaid : Prop := Claim7.holds Tryd.pinned (.plain (OpenSpec.upto domLawsSpec)) domLawsUptoCard

/-- THE SECOND FORM's CARD OF 'fescuelaw10.DomNexts'. -/
def domNextsUptoCard : Claim7 := { stood := { row := domNextsUptoRow, standIns := [], harness := (true, "69f15647d6a06601adf88fa26cd53a92ad2bf6e04b55aab0256bd153ba502372"), looks := false }, kinds := [], alts := [], laidByText := true, laidKinds := [.data], laidTests := true, laidLooks := .later }
def DomNextsUptoCardSaid : Prop := Claim7.holds Tryd.pinned (.plain (OpenSpec.upto domNextsSpec)) domNextsUptoCard

/-- THE SECOND FORM's CARD OF 'fescuelaw10.DomAhead'. -/
def domAheadUptoCard : Claim7 := { stood := { row := domAheadUptoRow, standIns := [], harness := (true, "69f15647d6a06601adf88fa26cd53a92ad2bf6e04b55aab0256bd153ba502372"), looks := false }, kinds := [], alts := [], laidByText := true, laidKinds := [.data], laidTests := true, laidLooks := .later }
def DomAheadUptoCardSaid : Prop := Claim7.holds Tryd.pinned (.plain (OpenSpec.upto domAheadSpec)) domAheadUptoCard

/-- THE SECOND FORM's CARD OF 'fescuelaw10.DomNames'. -/
def domNamesUptoCard : Claim7 := { stood := { row := domNamesUptoRow, standIns := [], harness := (true, "69f15647d6a06601adf88fa26cd53a92ad2bf6e04b55aab0256bd153ba502372"), looks := false }, kinds := [], alts := [], laidByText := true, laidKinds := [.data], laidTests := true, laidLooks := .later }
def DomNamesUptoCardSaid : Prop := Claim7.holds Tryd.pinned (.plain (OpenSpec.upto domNamesSpec)) domNamesUptoCard

/-- THE SECOND FORM's CARD OF 'fescuelaw10.DomPlaces'. -/
def domPlacesUptoCard : Claim7 := { stood := { row := domPlacesUptoRow, standIns := [], harness := (true, "69f15647d6a06601adf88fa26cd53a92ad2bf6e04b55aab0256bd153ba502372"), looks := false }, kinds := [], alts := [], laidByText := true, laidKinds := [.data], laidTests := true, laidLooks := .later }
def DomPlacesUptoCardSaid : Prop := Claim7.holds Tryd.pinned (.plain (OpenSpec.upto domPlacesSpec)) domPlacesUptoCard

/-- THE SECOND FORM's CARD OF 'fescuelaw11.LiveNames'. -/
def liveNamesUptoCard : Claim7 := { stood := { row := liveNamesUptoRow, standIns := [], harness := (true, "69f15647d6a06601adf88fa26cd53a92ad2bf6e04b55aab0256bd153ba502372"), looks := false }, kinds := [], alts := [], laidByText := true, laidKinds := [.data, .data], laidTests := true, laidLooks := .later }
def LiveNamesUptoCardSaid : Prop := Claim7.holds Tryd.pinned (.plain (OpenSpec.upto liveNamesSpec)) liveNamesUptoCard

/-- THE SECOND FORM's CARD OF 'fescuelaw11.LiveStep'. -/
def liveStepUptoCard : Claim7 := { stood := { row := liveStepUptoRow, standIns := [], harness := (true, "69f15647d6a06601adf88fa26cd53a92ad2bf6e04b55aab0256bd153ba502372"), looks := false }, kinds := [], alts := [], laidByText := true, laidKinds := [.data, .data], laidTests := true, laidLooks := .later }
def LiveStepUptoCardSaid : Prop := Claim7.holds Tryd.pinned (.plain (OpenSpec.upto liveStepSpec)) liveStepUptoCard

/-- THE SECOND FORM's CARD OF 'fescuelaw11.LiveEnd'. -/
def liveEndUptoCard : Claim7 := { stood := { row := liveEndUptoRow, standIns := [], harness := (true, "69f15647d6a06601adf88fa26cd53a92ad2bf6e04b55aab0256bd153ba502372"), looks := false }, kinds := [], alts := [], laidByText := true, laidKinds := [.data, .data], laidTests := true, laidLooks := .later }
def LiveEndUptoCardSaid : Prop := Claim7.holds Tryd.pinned (.plain (OpenSpec.upto liveEndSpec)) liveEndUptoCard

/-- THE SECOND FORM's CARD OF 'fescuelaw11.LiveWays'. -/
def liveWaysUptoCard : Claim7 := { stood := { row := liveWaysUptoRow, standIns := [], harness := (true, "69f15647d6a06601adf88fa26cd53a92ad2bf6e04b55aab0256bd153ba502372"), looks := false }, kinds := [], alts := [], laidByText := true, laidKinds := [.data, .data], laidTests := true, laidLooks := .later }
def LiveWaysUptoCardSaid : Prop := Claim7.holds Tryd.pinned (.plain (OpenSpec.upto liveWaysSpec)) liveWaysUptoCard
end Rows
end Go.Proofs.YtjbnabjjbofhjaaDoor
