/-
  Rulings: what the statements ask first, in plain Lean.
-/
import Derived.Test.YtbfehpiahmodlaaDoorLX
set_option linter.unusedVariables false
set_option linter.unusedSimpArgs false
set_option linter.unnecessarySimpa false
set_option maxRecDepth 10000
namespace Go.Rul
open Go.Lexs Go.Fin Go.Fo
theorem few_iff {l : List Rul} {n : Nat} : fewB l n = true ↔ l.length ≤ n ∧ ∀ r ∈ l, cnt r.read ≤ 250 ∧ r.id.length ≤ 100 ∧ r.tgt.length ≤ 100 ∧ r.lifts.length ≤ 100 := by
  unfold fewB smallR; simp only [decide_eq_true_eq]
theorem short_iff {l : List Spn} {n : Nat} : shortB l n = true ↔ l.length ≤ n ∧ ∀ s ∈ l, cnt s.read ≤ 250 := by
  unfold shortB; simp only [decide_eq_true_eq]
theorem few_ok {l : List Rul} {n : Nat} (h : fewB l n = true) : ∀ r ∈ l, cnt r.read ≤ 1000000 := fun r hr => by have := (few_iff.1 h).2 r hr; omega
theorem applyB_cnt {l : List Spn} {r : Rul} (h : ∀ s ∈ l, cnt s.read ≤ 250) (hr : cnt r.read ≤ 250) : ∀ s ∈ applyB l r, cnt s.read ≤ 1000 := by
  intro t ht
  obtain ⟨s, hs, ht⟩ := List.mem_flatMap.1 ht
  have hc := h s hs
  have hk : ∀ (a b : Int) (f : Fm), cnt f ≤ 1000 → t ∈ keep s a b f → cnt t.read ≤ 1000 := fun a b f hf hm => by
    unfold keep at hm
    simp only at hm
    split at hm <;> split at hm <;> first | (rw [List.mem_singleton.1 hm]; exact hf) | cases hm
  have hro : cnt (readOf s r) ≤ 1000 := by
    unfold readOf
    split
    · omega
    · have e1 : cnt (both2 s.read r.read) = 1 + (cnt s.read + (cnt r.read + 0)) := rfl
      omega
  unfold one1 at ht
  split at ht
  · cases ht
  split at ht
  · cases ht
  split at ht
  · exact hk _ _ _ (by omega) ht
  split at ht
  · exact hk _ _ _ (by omega) ht
  split at ht
  · rcases List.mem_append.1 ht with ht | ht
    · exact hk _ _ _ (by omega) ht
    · exact hk _ _ _ (by omega) ht
  split at ht
  · rcases List.mem_append.1 ht with ht | ht
    · exact hk _ _ _ (by omega) ht
    · exact hk _ _ _ hro ht
  · exact hk _ _ _ (by omega) ht
end Go.Rul
