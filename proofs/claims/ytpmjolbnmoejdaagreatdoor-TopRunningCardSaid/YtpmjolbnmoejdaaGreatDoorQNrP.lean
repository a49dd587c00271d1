/-
  Names, letter by letter: plain.
-/
import Derived.Test.YtpmjolbnmoejdaaGreatDoorQLx
import Derived.Test.YtpmjolbnmoejdaaGreatDoorQLD
set_option linter.unusedVariables false
set_option linter.unusedSimpArgs false
set_option linter.unnecessarySimpa false
set_option maxRecDepth 10000
namespace Go.Proofs
open Go Go.Pd Go.Lexs Go.Fin

theorem wd_iff (c : UInt8) : isWord c = true ↔ isLetter c = true ∨ (48 ≤ c.toNat ∧ c.toNat ≤ 57) ∨ c.toNat = 95 := by
  have h95 : c = 95 ↔ c.toNat = 95 := ⟨fun h => by rw [h]; rfl, fun h => UInt8.toNat_inj.1 h⟩
  have hd : isDigit c = true ↔ (48 ≤ c.toNat ∧ c.toNat ≤ 57) := by simp [isDigit, UInt8.le_iff_toNat_le]
  unfold isWord cls
  cases h1 : isLetter c
  · cases h2 : isDigit c
    · rw [h2] at hd
      simp only [Bool.false_eq_true, false_iff] at hd
      by_cases h3 : c.toNat = 95
      · have := h95.2 h3
        subst this
        simp [h1, h2]
      · have hc : c ≠ 95 := fun h => h3 (h95.1 h)
        simp only [h1, h2, hc, Bool.or_false, Bool.false_eq_true, if_false, decide_false, h3, or_false, false_or]
        constructor
        · intro h
          exfalso
          revert h
          repeat' split
          all_goals simp
        · intro h; exact absurd h hd
    · have := hd.1 h2
      simp [h1, h2, this]
  · simp [h1]

theorem lt_iff (c : UInt8) : isLetter c = true ↔ (97 ≤ c.toNat ∧ c.toNat ≤ 122) ∨ (65 ≤ c.toNat ∧ c.toNat ≤ 90) := by
  simp [isLetter, UInt8.le_iff_toNat_le]

def okAt (j : Nat) (c : UInt8) : Prop := isLetter c = true ∨ (j ≠ 0 ∧ isWord c = true)

theorem cls_3 (c : UInt8) : cls c = 3 ↔ isLetter c = true := by
  constructor
  · intro h
    unfold cls at h
    split at h
    · assumption
    · repeat (split at h; · cases h)
      cases h
  · intro h; simp [cls, h]

theorem nm_iff (s : List UInt8) : Nm s = true ↔ (∀ j (hj : j < s.length), okAt j s[j]) ∧ 0 < s.length ∧ s.length ≤ 24 := by
  unfold Nm
  simp only [Bool.and_eq_true, decide_eq_true_eq]
  have hh : ∀ (h0 : 0 < s.length), hd s = 3 ↔ isLetter s[0] = true := fun h0 => by
    cases s with
    | nil => simp at h0
    | cons c s => exact cls_3 c
  constructor
  · rintro ⟨h1, h2, h3, h4⟩
    refine ⟨fun j hj => ?_, h2, h3⟩
    by_cases hj0 : j = 0
    · subst hj0; exact .inl ((hh h2).1 h4)
    · exact .inr ⟨hj0, List.all_eq_true.1 h1 _ (List.getElem_mem hj)⟩
  · rintro ⟨h1, h2, h3⟩
    refine ⟨List.all_eq_true.2 fun c hc => ?_, h2, h3, (hh h2).2 ?_⟩
    · obtain ⟨j, hj, rfl⟩ := List.mem_iff_getElem.1 hc
      rcases h1 j hj with h | ⟨_, h⟩
      · exact (wd_iff _).2 (.inl h)
      · exact h
    · rcases h1 0 h2 with h | ⟨h, _⟩
      · exact h
      · exact absurd rfl h

theorem nm_false {s : List UInt8} {k : Nat} (hk : k < s.length) (h : ¬ okAt k s[k]) : Nm s = false := by
  cases hn : Nm s
  · rfl
  · exact absurd ((nm_iff s).1 hn |>.1 k hk) h
end Go.Proofs
