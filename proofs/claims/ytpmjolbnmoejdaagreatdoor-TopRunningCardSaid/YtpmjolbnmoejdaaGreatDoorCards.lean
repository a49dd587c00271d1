/-
  DERIVED. GIVEN WITH THE SEED: THE CARDS: each row of YtpmjolbnmoejdaaGreatDoorRows.lean that lists a variable, with what it lists TIED to the program's text (the seventh form; the later family's looks); each row that meets fmt, with fmt's text TOLD by the authors' own Lean function (tested against real Go, not proved from fmt's source: count such statements apart). THE CARD IS WHAT COUNTS. Prove the row's statement (the work); the ties are given (YtpmjolbnmoejdaaGreatDoorTie.lean); close each card by the builder's one call (the guide's Derived/Test/ToyasCard.lean, 'card_holds'). Laid BY PROGRAM, IN A SANDBOX (cutbox-door.mjs). By AI agents, Wed Nov 11 2026. No macro, syntax, notation, axiom, sorry.
-/
import Derived.Test.YtpmjolbnmoejdaaGreatDoorRows
import GoSem.ClaimSeven
namespace Go.Proofs.YtpmjolbnmoejdaaGreatDoor
namespace Rows

/-- THE TIED CARD OF 'pandecttop.TopRunning'. -/
def topRunningCard : Claim7 := { stood := { row := topRunningRow, standIns := [], harness := (true, "4cfe4c945a9af4eaa5f9524d954df9dc759cee328bfa923a0d6ef1dd5dfe68ac"), looks := true }, kinds := [], alts := [], laidByText := true, laidKinds := [.data, .data, .data, .sentinel, .sentinel], laidTests := true, laidLooks := .later }
def TopRunningCardSaid : Prop := Claim7.holds Tryz.pinned (.plain (OpenSpec.ofChange topRunningSpec)) topRunningCard

/-- THE SECOND FORM's CARD OF 'pandecttop.TopRunning'. -/
def topRunningUptoCard : Claim7 := { stood := { row := topRunningUptoRow, standIns := [], harness := (true, "4cfe4c945a9af4eaa5f9524d954df9dc759cee328bfa923a0d6ef1dd5dfe68ac"), looks := true }, kinds := [], alts := [], laidByText := true, laidKinds := [.data, .data, .data, .sentinel, .sentinel], laidTests := true, laidLooks := .later }
def TopRunningUptoCardSaid : Prop := Claim7.holds Tryz.pinned (.plain (OpenSpec.upto topRunningSpec)) topRunningUptoCard
end Rows
end Go.Proofs.YtpmjolbnmoejdaaGreatDoor
