/-
  DERIVED. GIVEN WITH THE SEED: THE CARDS: each row of YtebaoilkpedppaaGreatDoorRows.lean that lists a variable, with what it lists TIED to the program's text (the seventh form; the later family's looks); each row that meets fmt, with fmt's text TOLD by the authors' own Lean function (tested against real Go, not proved from fmt's source: count such statements apart). THE CARD IS WHAT COUNTS. Prove the row's statement (the work); the ties are given (YtebaoilkpedppaaGreatDoorTie.lean); close each card by the builder's one call (the guide's Derived/Test/ToyasCard.lean, 'card_holds'). Laid BY PROGRAM, IN A SANDBOX (cutbox-door.mjs). By AI agents, Wed Nov 11 2026. No macro, syntax, notation, axiom, sorry.
-/
import Derived.Test.YtebaoilkpedppaaGreatDoorRows
import GoSem.ClaimSeven
namespace Go.Proofs.YtebaoilkpedppaaGreatDoor
namespace Rows

/-- THE TIED CARD OF 'pandectlaw24.StartTexts'. -/
def startTextsCard : Claim7 := { stood := { row := startTextsRow, standIns := [], harness := (true, "f2f27c18e30f39b96fd3ae4d3eab44222251d7b3fedf366938c3ce4e5ef66b91"), looks := true }, kinds := [], alts := [], laidByText := true, laidKinds := [.data, .data, .data, .data, .sentinel, .sentinel, .listed, .data, .pinned], laidTests := true, laidLooks := .later }
def StartTextsCardSaid : Prop := Claim7.holds Tryz.pinned (.plain (OpenSpec.ofChange startTextsSpec)) startTextsCard

/-- THE TIED CARD OF 'pandectlaw24.StartMonotone'. -/
def startMonotoneCard : Claim7 := { stood := { row := startMonotoneRow, standIns := [], harness := (true, "f2f27c18e30f39b96fd3ae4d3eab44222251d7b3fedf366938c3ce4e5ef66b91"), looks := true }, kinds := [], alts := [], laidByText := true, laidKinds := [.data, .data, .data, .data, .sentinel, .sentinel, .listed, .data, .pinned], laidTests := true, laidLooks := .later }
def StartMonotoneCardSaid : Prop := Claim7.holds Tryz.pinned (.plain (OpenSpec.ofChange startMonotoneSpec)) startMonotoneCard

/-- THE TIED CARD OF 'pandectlaw24.StartNames'. -/
def startNamesCard : Claim7 := { stood := { row := startNamesRow, standIns := [], harness := (true, "f2f27c18e30f39b96fd3ae4d3eab44222251d7b3fedf366938c3ce4e5ef66b91"), looks := true }, kinds := [], alts := [], laidByText := true, laidKinds := [.data, .data, .data, .data, .sentinel, .sentinel, .listed, .data, .pinned], laidTests := true, laidLooks := .later }
def StartNamesCardSaid : Prop := Claim7.holds Tryz.pinned (.plain (OpenSpec.ofChange startNamesSpec)) startNamesCard

/-- THE TIED CARD OF 'pandectlaw24.StartStructure'. -/
def startStructureCard : Claim7 := { stood := { row := startStructureRow, standIns := [], harness := (true, "f2f27c18e30f39b96fd3ae4d3eab44222251d7b3fedf366938c3ce4e5ef66b91"), looks := true }, kinds := [], alts := [], laidByText := true, laidKinds := [.data, .data, .data, .data, .sentinel, .sentinel, .listed, .data, .pinned], laidTests := true, laidLooks := .later }
def StartStructureCardSaid : Prop := Claim7.holds Tryz.pinned (.plain (OpenSpec.ofChange startStructureSpec)) startStructureCard

/-- THE TIED CARD OF 'pandectlaw24.StartMatchesReference'. -/
def startMatchesReferenceCard : Claim7 := { stood := { row := startMatchesReferenceRow, standIns := [], harness := (true, "f2f27c18e30f39b96fd3ae4d3eab44222251d7b3fedf366938c3ce4e5ef66b91"), looks := true }, kinds := [], alts := [], laidByText := true, laidKinds := [.data, .data, .data, .data, .sentinel, .sentinel, .listed, .data, .pinned], laidTests := true, laidLooks := .later }
def StartMatchesReferenceCardSaid : Prop := Claim7.holds Tryz.pinned (.plain (OpenSpec.ofChange startMatchesReferenceSpec)) startMatchesReferenceCard

/-- THE SECOND FORM's CARD OF 'pandectlaw24.StartTexts'. -/
def startTextsUptoCard : Claim7 := { stood := { row := startTextsUptoRow, standIns := [], harness := (true, "f2f27c18e30f39b96fd3ae4d3eab44222251d7b3fedf366938c3ce4e5ef66b91"), looks := true }, kinds := [], alts := [], laidByText := true, laidKinds := [.data, .data, .data, .data, .sentinel, .sentinel, .listed, .data, .pinned], laidTests := true, laidLooks := .later }
def StartTextsUptoCardSaid : Prop := Claim7.holds Tryz.pinned (.plain (OpenSpec.upto startTextsSpec)) startTextsUptoCard

/-- THE SECOND FORM's CARD OF 'pandectlaw24.StartMonotone'. -/
def startMonotoneUptoCard : Claim7 := { stood := { row := startMonotoneUptoRow, standIns := [], harness := (true, "f2f27c18e30f39b96fd3ae4d3eab44222251d7b3fedf366938c3ce4e5ef66b91"), looks := true }, kinds := [], alts := [], laidByText := true, laidKinds := [.data, .data, .data, .data, .sentinel, .sentinel, .listed, .data, .pinned], laidTests := true, laidLooks := .later }
def StartMonotoneUptoCardSaid : Prop := Claim7.holds Tryz.pinned (.plain (OpenSpec.upto startMonotoneSpec)) startMonotoneUptoCard

/-- THE SECOND FORM's CARD OF 'pandectlaw24.StartNames'. -/
def startNamesUptoCard : Claim7 := { stood := { row := startNamesUptoRow, standIns := [], harness := (true, "f2f27c18e30f39b96fd3ae4d3eab44222251d7b3fedf366938c3ce4e5ef66b91"), looks := true }, kinds := [], alts := [], laidByText := true, laidKinds := [.data, .data, .data, .data, .sentinel, .sentinel, .listed, .data, .pinned], laidTests := true, laidLooks := .later }
def StartNamesUptoCardSaid : Prop := Claim7.holds Tryz.pinned (.plain (OpenSpec.upto startNamesSpec)) startNamesUptoCard

/-- THE SECOND FORM's CARD OF 'pandectlaw24.StartStructure'. -/
def startStructureUptoCard : Claim7 := { stood := { row := startStructureUptoRow, standIns := [], harness := (true, "f2f27c18e30f39b96fd3ae4d3eab44222251d7b3fedf366938c3ce4e5ef66b91"), looks := true }, kinds := [], alts := [], laidByText := true, laidKinds := [.data, .data, .data, .data, .sentinel, .sentinel, .listed, .data, .pinned], laidTests := true, laidLooks := .later }
def StartStructureUptoCardSaid : Prop := Claim7.holds Tryz.pinned (.plain (OpenSpec.upto startStructureSpec)) startStructureUptoCard

/-- THE SECOND FORM's CARD OF 'pandectlaw24.StartMatchesReference'. -/
def startMatchesReferenceUptoCard : Claim7 := { stood := { row := startMatchesReferenceUptoRow, standIns := [], harness := (true, "f2f27c18e30f39b96fd3ae4d3eab44222251d7b3fedf366938c3ce4e5ef66b91"), looks := true }, kinds := [], alts := [], laidByText := true, laidKinds := [.data, .data, .data, .data, .sentinel, .sentinel, .listed, .data, .pinned], laidTests := true, laidLooks := .later }
def StartMatchesReferenceUptoCardSaid : Prop := Claim7.holds Tryz.pinned (.plain (OpenSpec.upto startMatchesReferenceSpec)) startMatchesReferenceUptoCard
end Rows
end Go.Proofs.YtebaoilkpedppaaGreatDoor
