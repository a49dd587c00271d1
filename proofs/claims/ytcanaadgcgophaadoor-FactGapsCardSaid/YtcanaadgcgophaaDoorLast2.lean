/-
  Drawn regions of quiet operations with one last operation that may panic, where there may be deferred calls.
-/
import Derived.Test.YtcanaadgcgophaaDoorLD
set_option linter.unusedVariables false
set_option linter.unusedSimpArgs false
set_option linter.unnecessarySimpa false
set_option maxRecDepth 10000
namespace Go.Pd
open Go
variable {P : Program} {r : Option Nat} {n : Nat}
theorem op1_monoX {ops : Array Oper} {K K' : St → World → Prop} {X X' : List PanicEntry → St → World → Prop} {i : Nat} {s : St} {w : World} (hk : ∀ s w, K s w → K' s w) (hx : ∀ c s w, X c s w → X' c s w) (h : Op1 P r n ops K X i s w) : Op1 P r n ops K' X' i s w := by
  unfold Op1 at *
  cases ho : ops[i]? with
  | none => simp only [ho] at h ⊢; exact hk _ _ h
  | some o =>
    simp only [ho] at h ⊢
    split
    · rename_i hw
      rw [if_pos hw] at h
      exact opW_mono hk (fun c w h => hx c s w h) h
    · rename_i hw
      rw [if_neg hw] at h
      exact hk _ _ h
theorem anyO_monoX {ops : Array Oper} {K : St → World → Prop} {X X' : List PanicEntry → St → World → Prop} (hx : ∀ c s w, X c s w → X' c s w) : ∀ (f : Nat) (listed : Array Bool) (s : St) (w : World), AnyO P r n ops K X f listed s w → AnyO P r n ops K X' f listed s w
  | 0, listed, s, w, h => h
  | f + 1, listed, s, w, h => ⟨h.1, fun i hi => op1_monoX (fun s w h => anyO_monoX hx f _ s w h) hx (h.2 i hi)⟩
/-- Quiet ones, then the last one. -/
theorem wk_lastQ {id : Nat} {ol ol' : List Oper} {o : Oper} {K : St → World → Prop} {Q : Exit → St → World → Prop} {s : St} {w : World} (H : List Nat) (hl : ol = ol' ++ [o]) (hchk : lastOk ol'.toArray o = true) (hok : regOk ol'.toArray H [] [] = true)
    (h : OpsQ P r n ol'.toArray [] (fun w' => Ext w w') (fun _ => True) (fun sT => ∀ w', Ext w w' → OpsL P r n ol.toArray K (fun c => Q (.panic c)) [o] sT w') H s) (hm : P.follows .mixedOrders = true := by rfl) : WK P r n (.region id ol.toArray true) K Q s w := by
  refine wk_last hl hchk (fun w' hw' => anyO_monoX (X := fun _ _ _ => False) (fun _ _ _ h => h.elim) _ _ _ _ ?_) hm
  exact any_draw H [] [] (fun w' => Ext w w') (fun _ => True) hok (fun _ _ _ _ h => h) (fun _ h => Upd.of_heap h) (fun _ _ => trivial) h w' hw'
end Go.Pd
