/-
  Conditions of commencement: errors' places; tokens apart from places; parentheses; plain Lean.
-/
import Derived.Test.YtebaoilkpedppaaGreatDoorQStW
set_option linter.unusedVariables false
set_option linter.unusedSimpArgs false
set_option linter.unnecessarySimpa false
set_option maxRecDepth 10000
namespace Go.Sta
open Go.Lexs
/-! ### Places of errors -/
/-! ### Apart from places -/
/-! ### Parentheses -/
def Ex (x : List Tok) (read read' : List Tok → Rd Sn) : Prop := ∀ ts s r, read ts = .ok s r → read' (ts ++ x) = .ok s (r ++ x)
/-! ### Tokens with line feeds -/
end Go.Sta
