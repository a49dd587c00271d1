/-
  DERIVED. GIVEN WITH THE SEED: THE CARDS: each row of YtcanaadgcgophaaDoorRows.lean that lists a variable, with what it lists TIED to the program's text (the seventh form; the later family's looks); each row that meets fmt, with fmt's text TOLD by the authors' own Lean function (tested against real Go, not proved from fmt's source: count such statements apart). THE CARD IS WHAT COUNTS. Prove the row's statement (the work); the ties are given (YtcanaadgcgophaaDoorTie.lean); close each card by the builder's one call (the guide's Derived/Test/ToyasCard.lean, 'card_holds'). Laid BY PROGRAM, IN A SANDBOX (cutbox-door.mjs). By AI agents, Wed Nov 11 2026. No macro, syntax, notation, axiom, sorry.
-/
import Derived.Test.YtcanaadgcgophaaDoorRows
import GoSem.ClaimSeven
namespace Go.Proofs.YtcanaadgcgophaaDoor
namespace Rows

/-- THE TIED CARD OF 'pandectlaw06.FactMatchesReference'. -/
def factMatchesReferenceCard : Claim7 := { stood := { row := factMatchesReferenceRow, standIns := [], harness := (true, "d45e08d7a01db0761db67cc224ee214699f41891f78b8df1db7faa6654a41b32"), looks := true }, kinds := [], alts := [], laidByText := true, laidKinds := [.data, .data, .data, .sentinel, .sentinel], laidTests := true, laidLooks := .later }
def FactMatchesReferenceCardSaid : Prop := Claim7.holds Tryd.pinned (.plain (OpenSpec.ofChange factMatchesReferenceSpec)) factMatchesReferenceCard

/-- THE TIED CARD OF 'pandectlaw06.FactDomains'. -/
def factDomainsCard : Claim7 := { stood := { row := factDomainsRow, standIns := [], harness := (true, "d45e08d7a01db0761db67cc224ee214699f41891f78b8df1db7faa6654a41b32"), looks := true }, kinds := [], alts := [], laidByText := true, laidKinds := [.data, .data, .data, .sentinel, .sentinel], laidTests := true, laidLooks := .later }
def FactDomainsCardSaid : Prop := Claim7.holds Tryd.pinned (.plain (OpenSpec.ofChange factDomainsSpec)) factDomainsCard

/-- THE TIED CARD OF 'pandectlaw06.FactCases'. -/
def factCasesCard : Claim7 := { stood := { row := factCasesRow, standIns := [], harness := (true, "d45e08d7a01db0761db67cc224ee214699f41891f78b8df1db7faa6654a41b32"), looks := true }, kinds := [], alts := [], laidByText := true, laidKinds := [.data, .data, .data, .sentinel, .sentinel], laidTests := true, laidLooks := .later }
def FactCasesCardSaid : Prop := Claim7.holds Tryd.pinned (.plain (OpenSpec.ofChange factCasesSpec)) factCasesCard

/-- THE TIED CARD OF 'pandectlaw06.FactOrder'. -/
def factOrderCard : Claim7 := { stood := { row := factOrderRow, standIns := [], harness := (true, "d45e08d7a01db0761db67cc224ee214699f41891f78b8df1db7faa6654a41b32"), looks := true }, kinds := [], alts := [], laidByText := true, laidKinds := [.data, .data, .data, .sentinel, .sentinel], laidTests := true, laidLooks := .later }
def FactOrderCardSaid : Prop := Claim7.holds Tryd.pinned (.plain (OpenSpec.ofChange factOrderSpec)) factOrderCard

/-- THE TIED CARD OF 'pandectlaw06.FactWalks'. -/
def factWalksCard : Claim7 := { stood := { row := factWalksRow, standIns := [], harness := (true, "d45e08d7a01db0761db67cc224ee214699f41891f78b8df1db7faa6654a41b32"), looks := true }, kinds := [], alts := [], laidByText := true, laidKinds := [.data, .data, .data, .sentinel, .sentinel], laidTests := true, laidLooks := .later }
def FactWalksCardSaid : Prop := Claim7.holds Tryd.pinned (.plain (OpenSpec.ofChange factWalksSpec)) factWalksCard

/-- THE TIED CARD OF 'pandectlaw06.FactGaps'. -/
def factGapsCard : Claim7 := { stood := { row := factGapsRow, standIns := [], harness := (true, "d45e08d7a01db0761db67cc224ee214699f41891f78b8df1db7faa6654a41b32"), looks := true }, kinds := [], alts := [], laidByText := true, laidKinds := [.data, .data, .data, .sentinel, .sentinel], laidTests := true, laidLooks := .later }
def FactGapsCardSaid : Prop := Claim7.holds Tryd.pinned (.plain (OpenSpec.ofChange factGapsSpec)) factGapsCard

/-- THE SECOND FORM's CARD OF 'pandectlaw06.FactMatchesReference'. -/
def factMatchesReferenceUptoCard : Claim7 := { stood := { row := factMatchesReferenceUptoRow, standIns := [], harness := (true, "d45e08d7a01db0761db67cc224ee214699f41891f78b8df1db7faa6654a41b32"), looks := true }, kinds := [], alts := [], laidByText := true, laidKinds := [.data, .data, .data, .sentinel, .sentinel], laidTests := true, laidLooks := .later }
def FactMatchesReferenceUptoCardSaid : Prop := Claim7.holds Tryd.pinned (.plain (OpenSpec.upto factMatchesReferenceSpec)) factMatchesReferenceUptoCard

/-- THE SECOND FORM's CARD OF 'pandectlaw06.FactDomains'. -/
def factDomainsUptoCard : Claim7 := { stood := { row := factDomainsUptoRow, standIns := [], harness := (true, "d45e08d7a01db0761db67cc224ee214699f41891f78b8df1db7faa6654a41b32"), looks := true }, kinds := [], alts := [], laidByText := true, laidKinds := [.data, .data, .data, .sentinel, .sentinel], laidTests := true, laidLooks := .later }
def FactDomainsUptoCardSaid : Prop := Claim7.holds Tryd.pinned (.plain (OpenSpec.upto factDomainsSpec)) factDomainsUptoCard

/-- THE SECOND FORM's CARD OF 'pandectlaw06.FactCases'. -/
def factCasesUptoCard : Claim7 := { stood := { row := factCasesUptoRow, standIns := [], harness := (true, "d45e08d7a01db0761db67cc224ee214699f41891f78b8df1db7faa6654a41b32"), looks := true }, kinds := [], alts := [], laidByText := true, laidKinds := [.data, .data, .data, .sentinel, .sentinel], laidTests := true, laidLooks := .later }
def FactCasesUptoCardSaid : Prop := Claim7.holds Tryd.pinned (.plain (OpenSpec.upto factCasesSpec)) factCasesUptoCard

/-- THE SECOND FORM's CARD OF 'pandectlaw06.FactOrder'. -/
def factOrderUptoCard : Claim7 := { stood := { row := factOrderUptoRow, standIns := [], harness := (true, "d45e08d7a01db0761db67cc224ee214699f41891f78b8df1db7faa6654a41b32"), looks := true }, kinds := [], alts := [], laidByText := true, laidKinds := [.data, .data, .data, .sentinel, .sentinel], laidTests := true, laidLooks := .later }
def FactOrderUptoCardSaid : Prop := Claim7.holds Tryd.pinned (.plain (OpenSpec.upto factOrderSpec)) factOrderUptoCard

/-- THE SECOND FORM's CARD OF 'pandectlaw06.FactWalks'. -/
def factWalksUptoCard : Claim7 := { stood := { row := factWalksUptoRow, standIns := [], harness := (true, "d45e08d7a01db0761db67cc224ee214699f41891f78b8df1db7faa6654a41b32"), looks := true }, kinds := [], alts := [], laidByText := true, laidKinds := [.data, .data, .data, .sentinel, .sentinel], laidTests := true, laidLooks := .later }
def FactWalksUptoCardSaid : Prop := Claim7.holds Tryd.pinned (.plain (OpenSpec.upto factWalksSpec)) factWalksUptoCard

/-- THE SECOND FORM's CARD OF 'pandectlaw06.FactGaps'. -/
def factGapsUptoCard : Claim7 := { stood := { row := factGapsUptoRow, standIns := [], harness := (true, "d45e08d7a01db0761db67cc224ee214699f41891f78b8df1db7faa6654a41b32"), looks := true }, kinds := [], alts := [], laidByText := true, laidKinds := [.data, .data, .data, .sentinel, .sentinel], laidTests := true, laidLooks := .later }
def FactGapsUptoCardSaid : Prop := Claim7.holds Tryd.pinned (.plain (OpenSpec.upto factGapsSpec)) factGapsUptoCard
end Rows
end Go.Proofs.YtcanaadgcgophaaDoor
