/-
  DERIVED. GIVEN WITH THE SEED: THE CARDS: each row of YtebaoilkpedppaaDoorRows.lean that lists a variable, with what it lists TIED to the program's text (the seventh form; the later family's looks); each row that meets fmt, with fmt's text TOLD by the authors' own Lean function (tested against real Go, not proved from fmt's source: count such statements apart). THE CARD IS WHAT COUNTS. Prove the row's statement (the work); the ties are given (YtebaoilkpedppaaDoorTie.lean); close each card by the builder's one call (the guide's Derived/Test/ToyasCard.lean, 'card_holds'). Laid BY PROGRAM, IN A SANDBOX (cutbox-door.mjs). By AI agents, Wed Nov 11 2026. No macro, syntax, notation, axiom, sorry.
-/
import Derived.Test.YtebaoilkpedppaaDoorRows
import GoSem.ClaimSeven
namespace Go.Proofs.YtebaoilkpedppaaDoor
namespace Rows

/-- THE TIED CARD OF 'pandectlaw24.StartGaps'. -/
def startGapsCard : Claim7 := { stood := { row := startGapsRow, standIns := [], harness := (true, "8eb72b8710ae8b5abe2a0b2cf070fb4409d0e4b04eaab094345da3c382466616"), looks := true }, kinds := [], alts := [], laidByText := true, laidKinds := [.data, .data, .data, .data, .sentinel, .sentinel, .listed, .data, .pinned], laidTests := true, laidLooks := .later }
def StartGapsCardSaid : Prop := Claim7.holds Tryd.pinned (.plain (OpenSpec.ofChange startGapsSpec)) startGapsCard

/-- THE SECOND FORM's CARD OF 'pandectlaw24.StartGaps'. -/
def startGapsUptoCard : Claim7 := { stood := { row := startGapsUptoRow, standIns := [], harness := (true, "8eb72b8710ae8b5abe2a0b2cf070fb4409d0e4b04eaab094345da3c382466616"), looks := true }, kinds := [], alts := [], laidByText := true, laidKinds := [.data, .data, .data, .data, .sentinel, .sentinel, .listed, .data, .pinned], laidTests := true, laidLooks := .later }
def StartGapsUptoCardSaid : Prop := Claim7.holds Tryd.pinned (.plain (OpenSpec.upto startGapsSpec)) startGapsUptoCard
end Rows
end Go.Proofs.YtebaoilkpedppaaDoor
