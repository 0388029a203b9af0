/-
  DERIVED. GIVEN WITH THE SEED: THE CARDS: each row of YtkajibniibjblaaGreatDoorRows.lean that lists a variable, with what it lists TIED to the program's text (the seventh form; the later family's looks); each row that meets fmt, with fmt's text TOLD by the authors' own Lean function (tested against real Go, not proved from fmt's source: count such statements apart). THE CARD IS WHAT COUNTS. Prove the row's statement (the work); the ties are given (YtkajibniibjblaaGreatDoorTie.lean); close each card by the builder's one call (the guide's Derived/Test/ToyasCard.lean, 'card_holds'). Laid BY PROGRAM, IN A SANDBOX (cutbox-door.mjs). By AI agents, Wed Nov 11 2026. No macro, syntax, notation, axiom, sorry.
-/
import Derived.Test.YtkajibniibjblaaGreatDoorRows
import GoSem.ClaimSeven
namespace Go.Proofs.YtkajibniibjblaaGreatDoor
namespace Rows

/-- THE TIED CARD OF 'verdigrislaw03.BandOrders'. -/
def bandOrdersCard : Claim7 := { stood := { row := bandOrdersRow, standIns := [], harness := (true, "0c6fd6982b9c37a12abdcd5732a926b35a7cf2f8d5245979a8a4abcca68e7801"), looks := true }, kinds := [], alts := [], laidByText := true, laidKinds := [.data, .data, .data, .sentinel, .sentinel], laidTests := true, laidLooks := .later }
def BandOrdersCardSaid : Prop := Claim7.holds Tryz.pinned (.plain (OpenSpec.ofChange bandOrdersSpec)) bandOrdersCard

/-- THE TIED CARD OF 'verdigrislaw03.BandClamps'. -/
def bandClampsCard : Claim7 := { stood := { row := bandClampsRow, standIns := [], harness := (true, "0c6fd6982b9c37a12abdcd5732a926b35a7cf2f8d5245979a8a4abcca68e7801"), looks := true }, kinds := [], alts := [], laidByText := true, laidKinds := [.data, .data, .data, .sentinel, .sentinel], laidTests := true, laidLooks := .later }
def BandClampsCardSaid : Prop := Claim7.holds Tryz.pinned (.plain (OpenSpec.ofChange bandClampsSpec)) bandClampsCard

/-- THE TIED CARD OF 'verdigrislaw03.BandShrinks'. -/
def bandShrinksCard : Claim7 := { stood := { row := bandShrinksRow, standIns := [], harness := (true, "0c6fd6982b9c37a12abdcd5732a926b35a7cf2f8d5245979a8a4abcca68e7801"), looks := true }, kinds := [], alts := [], laidByText := true, laidKinds := [.data, .data, .data, .sentinel, .sentinel], laidTests := true, laidLooks := .later }
def BandShrinksCardSaid : Prop := Claim7.holds Tryz.pinned (.plain (OpenSpec.ofChange bandShrinksSpec)) bandShrinksCard

/-- THE TIED CARD OF 'verdigrislaw03.BandMakes'. -/
def bandMakesCard : Claim7 := { stood := { row := bandMakesRow, standIns := [], harness := (true, "0c6fd6982b9c37a12abdcd5732a926b35a7cf2f8d5245979a8a4abcca68e7801"), looks := true }, kinds := [], alts := [], laidByText := true, laidKinds := [.data, .data, .data, .sentinel, .sentinel], laidTests := true, laidLooks := .later }
def BandMakesCardSaid : Prop := Claim7.holds Tryz.pinned (.plain (OpenSpec.ofChange bandMakesSpec)) bandMakesCard

/-- THE TIED CARD OF 'verdigrislaw03.BandAround'. -/
def bandAroundCard : Claim7 := { stood := { row := bandAroundRow, standIns := [], harness := (true, "0c6fd6982b9c37a12abdcd5732a926b35a7cf2f8d5245979a8a4abcca68e7801"), looks := true }, kinds := [], alts := [], laidByText := true, laidKinds := [.data, .data, .data, .sentinel, .sentinel], laidTests := true, laidLooks := .later }
def BandAroundCardSaid : Prop := Claim7.holds Tryz.pinned (.plain (OpenSpec.ofChange bandAroundSpec)) bandAroundCard

/-- THE TIED CARD OF 'verdigrislaw03.BandHolds'. -/
def bandHoldsCard : Claim7 := { stood := { row := bandHoldsRow, standIns := [], harness := (true, "0c6fd6982b9c37a12abdcd5732a926b35a7cf2f8d5245979a8a4abcca68e7801"), looks := true }, kinds := [], alts := [], laidByText := true, laidKinds := [.data, .data, .data, .sentinel, .sentinel], laidTests := true, laidLooks := .later }
def BandHoldsCardSaid : Prop := Claim7.holds Tryz.pinned (.plain (OpenSpec.ofChange bandHoldsSpec)) bandHoldsCard

/-- THE SECOND FORM's CARD OF 'verdigrislaw03.BandOrders'. -/
def bandOrdersUptoCard : Claim7 := { stood := { row := bandOrdersUptoRow, standIns := [], harness := (true, "0c6fd6982b9c37a12abdcd5732a926b35a7cf2f8d5245979a8a4abcca68e7801"), looks := true }, kinds := [], alts := [], laidByText := true, laidKinds := [.data, .data, .data, .sentinel, .sentinel], laidTests := true, laidLooks := .later }
def BandOrdersUptoCardSaid : Prop := Claim7.holds Tryz.pinned (.plain (OpenSpec.upto bandOrdersSpec)) bandOrdersUptoCard

/-- THE SECOND FORM's CARD OF 'verdigrislaw03.BandClamps'. -/
def bandClampsUptoCard : Claim7 := { stood := { row := bandClampsUptoRow, standIns := [], harness := (true, "0c6fd6982b9c37a12abdcd5732a926b35a7cf2f8d5245979a8a4abcca68e7801"), looks := true }, kinds := [], alts := [], laidByText := true, laidKinds := [.data, .data, .data, .sentinel, .sentinel], laidTests := true, laidLooks := .later }
def BandClampsUptoCardSaid : Prop := Claim7.holds Tryz.pinned (.plain (OpenSpec.upto bandClampsSpec)) bandClampsUptoCard

/-- THE SECOND FORM's CARD OF 'verdigrislaw03.BandShrinks'. -/
def bandShrinksUptoCard : Claim7 := { stood := { row := bandShrinksUptoRow, standIns := [], harness := (true, "0c6fd6982b9c37a12abdcd5732a926b35a7cf2f8d5245979a8a4abcca68e7801"), looks := true }, kinds := [], alts := [], laidByText := true, laidKinds := [.data, .data, .data, .sentinel, .sentinel], laidTests := true, laidLooks := .later }
def BandShrinksUptoCardSaid : Prop := Claim7.holds Tryz.pinned (.plain (OpenSpec.upto bandShrinksSpec)) bandShrinksUptoCard

/-- THE SECOND FORM's CARD OF 'verdigrislaw03.BandMakes'. -/
def bandMakesUptoCard : Claim7 := { stood := { row := bandMakesUptoRow, standIns := [], harness := (true, "0c6fd6982b9c37a12abdcd5732a926b35a7cf2f8d5245979a8a4abcca68e7801"), looks := true }, kinds := [], alts := [], laidByText := true, laidKinds := [.data, .data, .data, .sentinel, .sentinel], laidTests := true, laidLooks := .later }
def BandMakesUptoCardSaid : Prop := Claim7.holds Tryz.pinned (.plain (OpenSpec.upto bandMakesSpec)) bandMakesUptoCard

/-- THE SECOND FORM's CARD OF 'verdigrislaw03.BandAround'. -/
def bandAroundUptoCard : Claim7 := { stood := { row := bandAroundUptoRow, standIns := [], harness := (true, "0c6fd6982b9c37a12abdcd5732a926b35a7cf2f8d5245979a8a4abcca68e7801"), looks := true }, kinds := [], alts := [], laidByText := true, laidKinds := [.data, .data, .data, .sentinel, .sentinel], laidTests := true, laidLooks := .later }
def BandAroundUptoCardSaid : Prop := Claim7.holds Tryz.pinned (.plain (OpenSpec.upto bandAroundSpec)) bandAroundUptoCard

/-- THE SECOND FORM's CARD OF 'verdigrislaw03.BandHolds'. -/
def bandHoldsUptoCard : Claim7 := { stood := { row := bandHoldsUptoRow, standIns := [], harness := (true, "0c6fd6982b9c37a12abdcd5732a926b35a7cf2f8d5245979a8a4abcca68e7801"), looks := true }, kinds := [], alts := [], laidByText := true, laidKinds := [.data, .data, .data, .sentinel, .sentinel], laidTests := true, laidLooks := .later }
def BandHoldsUptoCardSaid : Prop := Claim7.holds Tryz.pinned (.plain (OpenSpec.upto bandHoldsSpec)) bandHoldsUptoCard
end Rows
end Go.Proofs.YtkajibniibjblaaGreatDoor
