/-
  No cell of these rows narrows 'for every input' (looked for: loops, veiled, ifaces, maps, wideKeys, modest, calm, conditions, laid).
  DERIVED. THE GIVEN ROWS OF THIS SEAT. 6 by the template 'for every input the law returns true; each argument reads behind the call as it read before'; 0 by the template 'total and deterministic' (their statements: YthiiodbjmcafgaaTotals.lean).
  GIVEN WITH THE SEED: the statements are not yours to turn. If you find one false, say at which input.
  Laid BY PROGRAM, IN A SANDBOX (cutbox-rows.mjs): the forced cells as the released guide's own fill.sh prints them over the translation 1a2b1c6bd73f731a… (all of the seat's roots in one cut). By AI agents, Wed Nov 11 2026. No macro, syntax, notation, axiom, sorry.
-/
import Derived.Test.YthiiodbjmcafgaaChecked
import GoSem.Claim
import GoSem.ClaimJoined
import GoSem.ClaimMapViews
import Derived.JoinedTies
import Derived.KernelRfl
namespace Go.Proofs.Ythiiodbjmcafgaa
/- THE CELL 'sum', in the pinned program and in every row, IS THE sha256 OF THE DUMP (.gsa) THAT YthiiodbjmcafgaaProg.lean LOADS. Nothing in Lean hashes anything: it is a label: what it is worth is what the hold of that sum in a sandbox is worth. -/
noncomputable def Try.pinned : Pinned := { name := "ythiiodbjmcafgaa", sum := "1a2b1c6bd73f731ab998b0329049bcbe56af0a07ce332a91c28f1f93dc0b393c", checked := Try.checked }
namespace Rows
def none {H : Type} : Left H := { results := [], args := [] }

/-- 'pandectlaw47.NetMatchesReference': WHATEVER THE INPUT: true; the input reads as it did. -/
def netMatchesReferenceSpec : ChangeSpec := { name := "netMatchesReference", fn := fun _ => fun
  | [d1, d2] => { results := [.lit (.bool true)], args := [d1, d2] }
  | _ => none }
def netMatchesReferenceRow : OpenClaim := { program := "ythiiodbjmcafgaa", sum := "1a2b1c6bd73f731ab998b0329049bcbe56af0a07ce332a91c28f1f93dc0b393c", func := "pandect/pandectlaw47.NetMatchesReference", spec := "netMatchesReference", unfollowed := true, recurses := true, plainKeys := false, apart := false }
def NetMatchesReferenceSaid : Prop := netMatchesReferenceRow.holds Try.pinned (OpenSpec.ofChange netMatchesReferenceSpec)

/-- ITS FALSE NEIGHBOUR: 'it returns false'. Refute it at one input. -/
def netMatchesReferenceWrong : ChangeSpec := { name := "netMatchesReference", fn := fun _ => fun
  | [d1, d2] => { results := [.lit (.bool false)], args := [d1, d2] }
  | _ => none }
def NetMatchesReferenceWrongFalsely : Prop := netMatchesReferenceRow.holds Try.pinned (OpenSpec.ofChange netMatchesReferenceWrong)

/-- 'pandectlaw47.NetKeeps': WHATEVER THE INPUT: true; the input reads as it did. -/
def netKeepsSpec : ChangeSpec := { name := "netKeeps", fn := fun _ => fun
  | [d1, d2] => { results := [.lit (.bool true)], args := [d1, d2] }
  | _ => none }
def netKeepsRow : OpenClaim := { program := "ythiiodbjmcafgaa", sum := "1a2b1c6bd73f731ab998b0329049bcbe56af0a07ce332a91c28f1f93dc0b393c", func := "pandect/pandectlaw47.NetKeeps", spec := "netKeeps", unfollowed := true, recurses := true, plainKeys := false, apart := false }
def NetKeepsSaid : Prop := netKeepsRow.holds Try.pinned (OpenSpec.ofChange netKeepsSpec)

/-- ITS FALSE NEIGHBOUR: 'it returns false'. Refute it at one input. -/
def netKeepsWrong : ChangeSpec := { name := "netKeeps", fn := fun _ => fun
  | [d1, d2] => { results := [.lit (.bool false)], args := [d1, d2] }
  | _ => none }
def NetKeepsWrongFalsely : Prop := netKeepsRow.holds Try.pinned (OpenSpec.ofChange netKeepsWrong)

/-- 'pandectlaw47.NetKnows': WHATEVER THE INPUT: true; the input reads as it did. -/
def netKnowsSpec : ChangeSpec := { name := "netKnows", fn := fun _ => fun
  | [d1, d2] => { results := [.lit (.bool true)], args := [d1, d2] }
  | _ => none }
def netKnowsRow : OpenClaim := { program := "ythiiodbjmcafgaa", sum := "1a2b1c6bd73f731ab998b0329049bcbe56af0a07ce332a91c28f1f93dc0b393c", func := "pandect/pandectlaw47.NetKnows", spec := "netKnows", unfollowed := true, recurses := true, plainKeys := false, apart := false }
def NetKnowsSaid : Prop := netKnowsRow.holds Try.pinned (OpenSpec.ofChange netKnowsSpec)

/-- ITS FALSE NEIGHBOUR: 'it returns false'. Refute it at one input. -/
def netKnowsWrong : ChangeSpec := { name := "netKnows", fn := fun _ => fun
  | [d1, d2] => { results := [.lit (.bool false)], args := [d1, d2] }
  | _ => none }
def NetKnowsWrongFalsely : Prop := netKnowsRow.holds Try.pinned (OpenSpec.ofChange netKnowsWrong)

/-- 'pandectlaw47.NetAgain': WHATEVER THE INPUT: true; the input reads as it did. -/
def netAgainSpec : ChangeSpec := { name := "netAgain", fn := fun _ => fun
  | [d1, d2, d3, d4] => { results := [.lit (.bool true)], args := [d1, d2, d3, d4] }
  | _ => none }
def netAgainRow : OpenClaim := { program := "ythiiodbjmcafgaa", sum := "1a2b1c6bd73f731ab998b0329049bcbe56af0a07ce332a91c28f1f93dc0b393c", func := "pandect/pandectlaw47.NetAgain", spec := "netAgain", unfollowed := true, recurses := true, plainKeys := false, apart := false }
def NetAgainSaid : Prop := netAgainRow.holds Try.pinned (OpenSpec.ofChange netAgainSpec)

/-- ITS FALSE NEIGHBOUR: 'it returns false'. Refute it at one input. -/
def netAgainWrong : ChangeSpec := { name := "netAgain", fn := fun _ => fun
  | [d1, d2, d3, d4] => { results := [.lit (.bool false)], args := [d1, d2, d3, d4] }
  | _ => none }
def NetAgainWrongFalsely : Prop := netAgainRow.holds Try.pinned (OpenSpec.ofChange netAgainWrong)

/-- 'pandectlaw47.NetSpreads': WHATEVER THE INPUT: true; the input reads as it did. -/
def netSpreadsSpec : ChangeSpec := { name := "netSpreads", fn := fun _ => fun
  | [d1, d2] => { results := [.lit (.bool true)], args := [d1, d2] }
  | _ => none }
def netSpreadsRow : OpenClaim := { program := "ythiiodbjmcafgaa", sum := "1a2b1c6bd73f731ab998b0329049bcbe56af0a07ce332a91c28f1f93dc0b393c", func := "pandect/pandectlaw47.NetSpreads", spec := "netSpreads", unfollowed := true, recurses := true, plainKeys := false, apart := false }
def NetSpreadsSaid : Prop := netSpreadsRow.holds Try.pinned (OpenSpec.ofChange netSpreadsSpec)

/-- ITS FALSE NEIGHBOUR: 'it returns false'. Refute it at one input. -/
def netSpreadsWrong : ChangeSpec := { name := "netSpreads", fn := fun _ => fun
  | [d1, d2] => { results := [.lit (.bool false)], args := [d1, d2] }
  | _ => none }
def NetSpreadsWrongFalsely : Prop := netSpreadsRow.holds Try.pinned (OpenSpec.ofChange netSpreadsWrong)

/-- 'pandectlaw47.NetRests': WHATEVER THE INPUT: true; the input reads as it did. -/
def netRestsSpec : ChangeSpec := { name := "netRests", fn := fun _ => fun
  | [d1, d2, d3, d4] => { results := [.lit (.bool true)], args := [d1, d2, d3, d4] }
  | _ => none }
def netRestsRow : OpenClaim := { program := "ythiiodbjmcafgaa", sum := "1a2b1c6bd73f731ab998b0329049bcbe56af0a07ce332a91c28f1f93dc0b393c", func := "pandect/pandectlaw47.NetRests", spec := "netRests", unfollowed := true, recurses := true, plainKeys := false, apart := false }
def NetRestsSaid : Prop := netRestsRow.holds Try.pinned (OpenSpec.ofChange netRestsSpec)

/-- ITS FALSE NEIGHBOUR: 'it returns false'. Refute it at one input. -/
def netRestsWrong : ChangeSpec := { name := "netRests", fn := fun _ => fun
  | [d1, d2, d3, d4] => { results := [.lit (.bool false)], args := [d1, d2, d3, d4] }
  | _ => none }
def NetRestsWrongFalsely : Prop := netRestsRow.holds Try.pinned (OpenSpec.ofChange netRestsWrong)

/- THE SECOND FORM. 'bulk': how many values and letters a reading holds, each counted each time it is reached (what is shared counts as often as it is met; a slice's spare places count too). A statement '..UptoSaid' is the law's where the arguments, and the package variables that the reading takes, are together of bulk at most 1048576: NARROWER than '..Said'. Prove '..Said' where nothing that the law and all that it calls make is longer than what came in: it says more and counts as full. Else prove '..UptoSaid'. A law counts once. -/
mutual
def uptoBulk {H : Type} : DataW H → Nat
  | .lit (.string bytes) => bytes.length + 1
  | .lit _ => 1
  | .nil => 1
  | .ptr d => uptoBulk d + 1
  | .slice elems spare => uptoBulkAll elems + uptoBulkAll spare + 1
  | .agg parts => uptoBulkAll parts + 1
  | .iface _ d => uptoBulk d + 1
  | .map entries => uptoBulkEntries entries + 1
  | .held _ => 1
def uptoBulkAll {H : Type} : List (DataW H) → Nat
  | [] => 0
  | d :: r => uptoBulk d + uptoBulkAll r
def uptoBulkEntries {H : Type} : List (Lit × DataW H) → Nat
  | [] => 0
  | x :: r => uptoBulkEntry x + uptoBulkEntries r
def uptoBulkEntry {H : Type} : Lit × DataW H → Nat
  | (.string bytes, d) => bytes.length + uptoBulk d + 1
  | (_, d) => uptoBulk d + 1
 end
def uptoSmall : (H : Type) → List (DataW H) → Bool := fun _ ds => decide (uptoBulkAll ds ≤ 1048576)
def OpenSpec.upto (s : _root_.Go.ChangeSpec) : _root_.Go.OpenSpec := { _root_.Go.OpenSpec.ofChange s with cond := some uptoSmall }

/-- 'pandectlaw47.NetMatchesReference', WHERE WHAT IT READS IS OF BULK AT MOST 1048576: true; the input reads as it did. -/
def netMatchesReferenceUptoRow : OpenClaim := { program := "ythiiodbjmcafgaa", sum := "1a2b1c6bd73f731ab998b0329049bcbe56af0a07ce332a91c28f1f93dc0b393c", func := "pandect/pandectlaw47.NetMatchesReference", spec := "netMatchesReference", unfollowed := true, recurses := true, plainKeys := false, apart := false, narrowed := true }
def NetMatchesReferenceUptoSaid : Prop := netMatchesReferenceUptoRow.holds Try.pinned (OpenSpec.upto netMatchesReferenceSpec)

/-- 'pandectlaw47.NetKeeps', WHERE WHAT IT READS IS OF BULK AT MOST 1048576: true; the input reads as it did. -/
def netKeepsUptoRow : OpenClaim := { program := "ythiiodbjmcafgaa", sum := "1a2b1c6bd73f731ab998b0329049bcbe56af0a07ce332a91c28f1f93dc0b393c", func := "pandect/pandectlaw47.NetKeeps", spec := "netKeeps", unfollowed := true, recurses := true, plainKeys := false, apart := false, narrowed := true }
def NetKeepsUptoSaid : Prop := netKeepsUptoRow.holds Try.pinned (OpenSpec.upto netKeepsSpec)

/-- 'pandectlaw47.NetKnows', WHERE WHAT IT READS IS OF BULK AT MOST 1048576: true; the input reads as it did. -/
def netKnowsUptoRow : OpenClaim := { program := "ythiiodbjmcafgaa", sum := "1a2b1c6bd73f731ab998b0329049bcbe56af0a07ce332a91c28f1f93dc0b393c", func := "pandect/pandectlaw47.NetKnows", spec := "netKnows", unfollowed := true, recurses := true, plainKeys := false, apart := false, narrowed := true }
def NetKnowsUptoSaid : Prop := netKnowsUptoRow.holds Try.pinned (OpenSpec.upto netKnowsSpec)

/-- 'pandectlaw47.NetAgain', WHERE WHAT IT READS IS OF BULK AT MOST 1048576: true; the input reads as it did. -/
def netAgainUptoRow : OpenClaim := { program := "ythiiodbjmcafgaa", sum := "1a2b1c6bd73f731ab998b0329049bcbe56af0a07ce332a91c28f1f93dc0b393c", func := "pandect/pandectlaw47.NetAgain", spec := "netAgain", unfollowed := true, recurses := true, plainKeys := false, apart := false, narrowed := true }
def NetAgainUptoSaid : Prop := netAgainUptoRow.holds Try.pinned (OpenSpec.upto netAgainSpec)

/-- 'pandectlaw47.NetSpreads', WHERE WHAT IT READS IS OF BULK AT MOST 1048576: true; the input reads as it did. -/
def netSpreadsUptoRow : OpenClaim := { program := "ythiiodbjmcafgaa", sum := "1a2b1c6bd73f731ab998b0329049bcbe56af0a07ce332a91c28f1f93dc0b393c", func := "pandect/pandectlaw47.NetSpreads", spec := "netSpreads", unfollowed := true, recurses := true, plainKeys := false, apart := false, narrowed := true }
def NetSpreadsUptoSaid : Prop := netSpreadsUptoRow.holds Try.pinned (OpenSpec.upto netSpreadsSpec)

/-- 'pandectlaw47.NetRests', WHERE WHAT IT READS IS OF BULK AT MOST 1048576: true; the input reads as it did. -/
def netRestsUptoRow : OpenClaim := { program := "ythiiodbjmcafgaa", sum := "1a2b1c6bd73f731ab998b0329049bcbe56af0a07ce332a91c28f1f93dc0b393c", func := "pandect/pandectlaw47.NetRests", spec := "netRests", unfollowed := true, recurses := true, plainKeys := false, apart := false, narrowed := true }
def NetRestsUptoSaid : Prop := netRestsUptoRow.holds Try.pinned (OpenSpec.upto netRestsSpec)

end Rows
end Go.Proofs.Ythiiodbjmcafgaa
