/-
  Domains and cases, in plain Lean: no program in sight.
-/
import Derived.Test.YtcanaadgcgophaaDoorNm
set_option linter.unusedVariables false
set_option linter.unusedSimpArgs false
set_option linter.unnecessarySimpa false
set_option maxRecDepth 10000
namespace Go.Fo
open Go.Lexs Go.Fin
structure Fact where
  name : List UInt8
  kind : Int
  lo : Int
  hi : Int
  deriving DecidableEq

def factOk (f : Fact) : Bool := ((decide (f.kind = 1) && decide (f.lo = 0) && decide (f.hi = 1)) || ((decide (f.kind = 2) || decide (f.kind = 3)) && decide (0 ≤ f.lo) && decide (f.lo ≤ f.hi) && decide (f.hi ≤ 1000000))) && Nm f.name

def idx (F : List Fact) (s : List UInt8) : Option Nat := F.findIdx? fun f => decide (f.name = s)
def idxI (F : List Fact) (s : List UInt8) : Int := match idx F s with | some i => (i : Int) | none => -1

def validD (F : List Fact) : Bool := F.all factOk && decide ((F.map (·.name)).Nodup) && decide (F.length ≤ 60)

def fitsC : List Fact → List Int → Bool
  | [], [] => true
  | f :: F, z :: c => decide (f.lo ≤ z) && decide (z ≤ f.hi) && fitsC F c
  | _, _ => false
def fitsB (F : List Fact) (c : List Int) : Bool := validD F && fitsC F c
end Go.Fo
