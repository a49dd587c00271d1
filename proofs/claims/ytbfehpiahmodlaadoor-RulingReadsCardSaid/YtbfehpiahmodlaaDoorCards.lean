/-
  DERIVED. GIVEN WITH THE SEED: THE CARDS: each row of YtbfehpiahmodlaaDoorRows.lean that lists a variable, with what it lists TIED to the program's text (the seventh form; the later family's looks); each row that meets fmt, with fmt's text TOLD by the authors' own Lean function (tested against real Go, not proved from fmt's source: count such statements apart). THE CARD IS WHAT COUNTS. Prove the row's statement (the work); the ties are given (YtbfehpiahmodlaaDoorTie.lean); close each card by the builder's one call (the guide's Derived/Test/ToyasCard.lean, 'card_holds'). Laid BY PROGRAM, IN A SANDBOX (cutbox-door.mjs). By AI agents, Wed Nov 11 2026. No macro, syntax, notation, axiom, sorry.
-/
import Derived.Test.YtbfehpiahmodlaaDoorRows
import GoSem.ClaimSeven
namespace Go.Proofs.YtbfehpiahmodlaaDoor
namespace Rows

/-- THE TIED CARD OF 'pandectlaw26.RulingReads'. -/
def rulingReadsCard : Claim7 := { stood := { row := rulingReadsRow, standIns := [], harness := (true, "d194ea2b70870457e2e84e4139c82ce166348d40a402f0abd4ca365aa99f88a9"), looks := true }, kinds := [], alts := [], laidByText := true, laidKinds := [.data, .data, .data, .sentinel, .sentinel], laidTests := true, laidLooks := .later }
def RulingReadsCardSaid : Prop := Claim7.holds Tryd.pinned (.plain (OpenSpec.ofChange rulingReadsSpec)) rulingReadsCard

/-- THE SECOND FORM's CARD OF 'pandectlaw26.RulingReads'. -/
def rulingReadsUptoCard : Claim7 := { stood := { row := rulingReadsUptoRow, standIns := [], harness := (true, "d194ea2b70870457e2e84e4139c82ce166348d40a402f0abd4ca365aa99f88a9"), looks := true }, kinds := [], alts := [], laidByText := true, laidKinds := [.data, .data, .data, .sentinel, .sentinel], laidTests := true, laidLooks := .later }
def RulingReadsUptoCardSaid : Prop := Claim7.holds Tryd.pinned (.plain (OpenSpec.upto rulingReadsSpec)) rulingReadsUptoCard
end Rows
end Go.Proofs.YtbfehpiahmodlaaDoor
