/-
  DERIVED. GIVEN WITH THE SEED: THE CARDS: each row of YtjijmehighoonaaDoorRows.lean that lists a variable, with what it lists TIED to the program's text (the seventh form; the later family's looks); each row that meets fmt, with fmt's text TOLD by the authors' own Lean function (tested against real Go, not proved from fmt's source: count such statements apart). THE CARD IS WHAT COUNTS. Prove the row's statement (the work); the ties are given (YtjijmehighoonaaDoorTie.lean); close each card by the builder's one call (the guide's Derived/Test/ToyasCard.lean, 'card_holds'). Laid BY PROGRAM, IN A SANDBOX (cutbox-door.mjs). By AI agents, Wed Nov 11 2026. No macro, syntax, notation, axiom, sorry.
-/
import Derived.Test.YtjijmehighoonaaDoorRows
import GoSem.ClaimSeven
namespace Go.Proofs.YtjijmehighoonaaDoor
namespace Rows

/-- THE TIED CARD OF 'pandectlaw28.FinalMatchesReference'. -/
def finalMatchesReferenceCard : Claim7 := { stood := { row := finalMatchesReferenceRow, standIns := [], harness := (true, "4d0276b3dae3454cbe0ce59d51e54ee1c9f6290150334170a971f80aa38b8d02"), looks := true }, kinds := [], alts := [], laidByText := true, laidKinds := [.data, .data, .data, .sentinel, .sentinel], laidTests := true, laidLooks := .later }
def FinalMatchesReferenceCardSaid : Prop := Claim7.holds Tryd.pinned (.plain (OpenSpec.ofChange finalMatchesReferenceSpec)) finalMatchesReferenceCard

/-- THE TIED CARD OF 'pandectlaw28.FinalOne'. -/
def finalOneCard : Claim7 := { stood := { row := finalOneRow, standIns := [], harness := (true, "4d0276b3dae3454cbe0ce59d51e54ee1c9f6290150334170a971f80aa38b8d02"), looks := true }, kinds := [], alts := [], laidByText := true, laidKinds := [.data, .data, .data, .sentinel, .sentinel], laidTests := true, laidLooks := .later }
def FinalOneCardSaid : Prop := Claim7.holds Tryd.pinned (.plain (OpenSpec.ofChange finalOneSpec)) finalOneCard

/-- THE TIED CARD OF 'pandectlaw28.FinalStays'. -/
def finalStaysCard : Claim7 := { stood := { row := finalStaysRow, standIns := [], harness := (true, "4d0276b3dae3454cbe0ce59d51e54ee1c9f6290150334170a971f80aa38b8d02"), looks := true }, kinds := [], alts := [], laidByText := true, laidKinds := [.data, .data, .data, .sentinel, .sentinel], laidTests := true, laidLooks := .later }
def FinalStaysCardSaid : Prop := Claim7.holds Tryd.pinned (.plain (OpenSpec.ofChange finalStaysSpec)) finalStaysCard

/-- THE TIED CARD OF 'pandectlaw28.FinalRefuses'. -/
def finalRefusesCard : Claim7 := { stood := { row := finalRefusesRow, standIns := [], harness := (true, "4d0276b3dae3454cbe0ce59d51e54ee1c9f6290150334170a971f80aa38b8d02"), looks := true }, kinds := [], alts := [], laidByText := true, laidKinds := [.data, .data, .data, .sentinel, .sentinel], laidTests := true, laidLooks := .later }
def FinalRefusesCardSaid : Prop := Claim7.holds Tryd.pinned (.plain (OpenSpec.ofChange finalRefusesSpec)) finalRefusesCard

/-- THE TIED CARD OF 'pandectlaw28.FinalAgain'. -/
def finalAgainCard : Claim7 := { stood := { row := finalAgainRow, standIns := [], harness := (true, "4d0276b3dae3454cbe0ce59d51e54ee1c9f6290150334170a971f80aa38b8d02"), looks := true }, kinds := [], alts := [], laidByText := true, laidKinds := [.data, .data, .data, .sentinel, .sentinel], laidTests := true, laidLooks := .later }
def FinalAgainCardSaid : Prop := Claim7.holds Tryd.pinned (.plain (OpenSpec.ofChange finalAgainSpec)) finalAgainCard

/-- THE TIED CARD OF 'pandectlaw28.FinalApart'. -/
def finalApartCard : Claim7 := { stood := { row := finalApartRow, standIns := [], harness := (true, "4d0276b3dae3454cbe0ce59d51e54ee1c9f6290150334170a971f80aa38b8d02"), looks := true }, kinds := [], alts := [], laidByText := true, laidKinds := [.data, .data, .data, .sentinel, .sentinel], laidTests := true, laidLooks := .later }
def FinalApartCardSaid : Prop := Claim7.holds Tryd.pinned (.plain (OpenSpec.ofChange finalApartSpec)) finalApartCard

/-- THE SECOND FORM's CARD OF 'pandectlaw28.FinalMatchesReference'. -/
def finalMatchesReferenceUptoCard : Claim7 := { stood := { row := finalMatchesReferenceUptoRow, standIns := [], harness := (true, "4d0276b3dae3454cbe0ce59d51e54ee1c9f6290150334170a971f80aa38b8d02"), looks := true }, kinds := [], alts := [], laidByText := true, laidKinds := [.data, .data, .data, .sentinel, .sentinel], laidTests := true, laidLooks := .later }
def FinalMatchesReferenceUptoCardSaid : Prop := Claim7.holds Tryd.pinned (.plain (OpenSpec.upto finalMatchesReferenceSpec)) finalMatchesReferenceUptoCard

/-- THE SECOND FORM's CARD OF 'pandectlaw28.FinalOne'. -/
def finalOneUptoCard : Claim7 := { stood := { row := finalOneUptoRow, standIns := [], harness := (true, "4d0276b3dae3454cbe0ce59d51e54ee1c9f6290150334170a971f80aa38b8d02"), looks := true }, kinds := [], alts := [], laidByText := true, laidKinds := [.data, .data, .data, .sentinel, .sentinel], laidTests := true, laidLooks := .later }
def FinalOneUptoCardSaid : Prop := Claim7.holds Tryd.pinned (.plain (OpenSpec.upto finalOneSpec)) finalOneUptoCard

/-- THE SECOND FORM's CARD OF 'pandectlaw28.FinalStays'. -/
def finalStaysUptoCard : Claim7 := { stood := { row := finalStaysUptoRow, standIns := [], harness := (true, "4d0276b3dae3454cbe0ce59d51e54ee1c9f6290150334170a971f80aa38b8d02"), looks := true }, kinds := [], alts := [], laidByText := true, laidKinds := [.data, .data, .data, .sentinel, .sentinel], laidTests := true, laidLooks := .later }
def FinalStaysUptoCardSaid : Prop := Claim7.holds Tryd.pinned (.plain (OpenSpec.upto finalStaysSpec)) finalStaysUptoCard

/-- THE SECOND FORM's CARD OF 'pandectlaw28.FinalRefuses'. -/
def finalRefusesUptoCard : Claim7 := { stood := { row := finalRefusesUptoRow, standIns := [], harness := (true, "4d0276b3dae3454cbe0ce59d51e54ee1c9f6290150334170a971f80aa38b8d02"), looks := true }, kinds := [], alts := [], laidByText := true, laidKinds := [.data, .data, .data, .sentinel, .sentinel], laidTests := true, laidLooks := .later }
def FinalRefusesUptoCardSaid : Prop := Claim7.holds Tryd.pinned (.plain (OpenSpec.upto finalRefusesSpec)) finalRefusesUptoCard

/-- THE SECOND FORM's CARD OF 'pandectlaw28.FinalAgain'. -/
def finalAgainUptoCard : Claim7 := { stood := { row := finalAgainUptoRow, standIns := [], harness := (true, "4d0276b3dae3454cbe0ce59d51e54ee1c9f6290150334170a971f80aa38b8d02"), looks := true }, kinds := [], alts := [], laidByText := true, laidKinds := [.data, .data, .data, .sentinel, .sentinel], laidTests := true, laidLooks := .later }
def FinalAgainUptoCardSaid : Prop := Claim7.holds Tryd.pinned (.plain (OpenSpec.upto finalAgainSpec)) finalAgainUptoCard

/-- THE SECOND FORM's CARD OF 'pandectlaw28.FinalApart'. -/
def finalApartUptoCard : Claim7 := { stood := { row := finalApartUptoRow, standIns := [], harness := (true, "4d0276b3dae3454cbe0ce59d51e54ee1c9f6290150334170a971f80aa38b8d02"), looks := true }, kinds := [], alts := [], laidByText := true, laidKinds := [.data, .data, .data, .sentinel, .sentinel], laidTests := true, laidLooks := .later }
def FinalApartUptoCardSaid : Prop := Claim7.holds Tryd.pinned (.plain (OpenSpec.upto finalApartSpec)) finalApartUptoCard
end Rows
end Go.Proofs.YtjijmehighoonaaDoor
