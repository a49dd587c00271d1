/-
  Drawn regions that build: structures, slices.
-/
import Derived.Test.YtbfehpiahmodlaaLD
set_option linter.unusedSimpArgs false
set_option linter.unnecessarySimpa false
set_option maxRecDepth 10000
set_option linter.unusedVariables false
namespace Go.Pd
variable {P : Program} {r : Option Nat} {n : Nat}
section
variable {ops : Array Oper} {w0 : World} {K : St → Prop} {i : Nat} {l : List Nat} {s : St} {k : Nat} {ty : TypeId} {p : String} {af : Array Edge} {g : Option (Nat × Bool)}
theorem x_build {t : TypeId} {parts : Array (Nat × Operand)} (cs : List Value) (ho : ops[i]? = some ⟨some k, .build t parts, ty, p, af, g⟩) (hw : Region.wanted ⟨some k, .build t parts, ty, p, af, g⟩ (yieldedE ops n s) = true) (hb : buildC P t (parts.toList.map fun x => (x.1, rd n s x.2)) = some cs.toArray)
    (hk : OpsX P r n ops w0 K l (s.set k (.agg cs.toArray))) : OpsX P r n ops w0 K (i :: l) s := x_pur ho hw (fun _ => r_build cs hb) hk
theorem q_build {E : List Nat} {C C2 : World → Prop} {t : TypeId} {parts : Array (Nat × Operand)} (cs : List Value) (ho : ops[i]? = some ⟨some k, .build t parts, ty, p, af, g⟩) (hw : Region.wanted ⟨some k, .build t parts, ty, p, af, g⟩ (yieldedE ops n s) = true) (hb : buildC P t (parts.toList.map fun x => (x.1, rd n s x.2)) = some cs.toArray)
    (hk : OpsQ P r n ops E C C2 K l (s.set k (.agg cs.toArray))) : OpsQ P r n ops E C C2 K (i :: l) s := q_pur ho hw (by rfl) (fun _ => r_build cs hb) hk
end
/-- A slice literal's answer: fresh cells. -/
def BsR (len : Nat) (cs : List Value) (v : Value) (w : World) : Prop := ∃ b, v = .slice (some ⟨b, 0, none⟩) len len ∧ Row w b 0 cs
theorem BsR.stb (len : Nat) (cs : List Value) : ∀ v w w', BsR len cs v w → Ext w w' → BsR len cs v w' := fun _ _ _ ⟨b, h1, h2⟩ e => ⟨b, h1, h2.ext e⟩
end Go.Pd
