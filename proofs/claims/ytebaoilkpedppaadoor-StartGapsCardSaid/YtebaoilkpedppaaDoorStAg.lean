/-
  The statement about texts, walked.
-/
import Derived.Test.YtebaoilkpedppaaDoorStAf
import Derived.Test.YtebaoilkpedppaaDoorStY
set_option linter.unusedVariables false
set_option linter.unusedSimpArgs false
set_option linter.unnecessarySimpa false
set_option maxRecDepth 10000
namespace Go.Sta
open Go.Lexs (Tok lex)
/-! ### Errors are errors -/
def BadNe {α : Type} (read : List Tok → Rd α) : Prop := ∀ ts e a, read ts = .bad e a → e ≠ 0
theorem failR_ne {α : Type} {en : Int} : BadNe (failR (α := α) en) := fun ts e a hb => by
  cases hb
  cases ts <;> simp [failE]
theorem sevTail_ne {w : Tx} {read : List Tok → Rd Sn} (hb : BadNe read) : ∀ (n : Nat) (acc : List Sn), BadNe (sevTail w read n acc)
  | 0, acc => fun ts e a he => nomatch he
  | n + 1, acc => fun ts e a he => by
    simp only [sevTail] at he
    split at he
    · cases hr : read ts.tail with
      | bad e2 a2 => rw [hr] at he; cases he; exact hb _ _ _ hr
      | ok x r2 => rw [hr] at he; exact sevTail_ne hb n _ _ _ _ he
    · cases he
theorem sev_ne {w : Tx} {op : Int} {read : List Tok → Rd Sn} (hb : BadNe read) : BadNe (sev w op read) := fun ts e a he => by
  unfold sev at he
  cases hr : read ts with
  | bad e2 a2 => rw [hr] at he; cases he; exact hb _ _ _ hr
  | ok y r1 =>
    rw [hr] at he
    simp only at he
    cases ht : sevTail w read r1.length [y] r1 with
    | bad e2 a2 => rw [ht] at he; cases he; exact sevTail_ne hb _ _ _ _ _ ht
    | ok l r2 => rw [ht] at he; cases he
theorem takeT_ne {en : Int} {k : Nat} : BadNe (takeT en k) := fun ts e a he => by
  cases ts with
  | nil => exact failR_ne [] e a he
  | cons t r =>
    simp only [takeT] at he
    split at he
    · cases he
    · exact failR_ne _ e a he
theorem wordR_ne {en : Int} (op : Int) : BadNe (wordR en op) := fun ts e a he => by
  unfold wordR at he
  split at he
  · cases ht : takeT en 2 ts with
    | bad e2 a2 => rw [ht] at he; cases he; exact takeT_ne _ _ _ ht
    | ok t r2 =>
      rw [ht] at he
      simp only at he
      split at he
      · cases he; decide
      · cases he
  · split at he
    · cases ht : takeT en 1 ts with
      | bad e2 a2 => rw [ht] at he; cases he; exact takeT_ne _ _ _ ht
      | ok t r2 => rw [ht] at he; cases he
    · cases he
theorem pOne_ne (en : Int) : ∀ f, BadNe (pOne en f)
  | 0 => failR_ne
  | f + 1 => fun ts e a he => by
    simp only [pOne] at he
    split at he
    · cases hs : sev kOr 9 (sev kAnd 8 (pOne en f)) ts.tail with
      | bad e2 a2 => rw [hs] at he; cases he; exact sev_ne (sev_ne (pOne_ne en f)) _ _ _ hs
      | ok s r2 =>
        rw [hs] at he
        simp only at he
        split at he
        · cases he
        · exact failR_ne _ _ _ he
    · cases hf : wordL.find? fun p => isT p.1 ts with
      | none => rw [hf] at he; exact failR_ne _ _ _ he
      | some p => rw [hf] at he; exact wordR_ne p.2 _ _ _ he
theorem parse_ne {t : Tx} {e a : Int} (h : parse t = .inr (e, a)) : e ≠ 0 := by
  unfold parse at h
  cases hl : lex t with
  | bad e2 a2 =>
    rw [hl] at h
    cases h
    have := Go.Proofs.lex_ne hl
    omega
  | ok ts =>
    rw [hl] at h
    simp only at h
    unfold parseT at h
    cases hr : pStart t.length (ts.length + 1) ts with
    | bad e2 a2 => rw [hr] at h; cases h; exact sev_ne (sev_ne (pOne_ne _ _)) _ _ _ hr
    | ok s r =>
      rw [hr] at h
      simp only at h
      split at h
      · split at h
        · cases h
        · cases h; decide
      · cases h
        cases r <;> simp [failE]
theorem parse_fit {t : Tx} {s : Sn} (h : parse t = .inl s) : fitS s := by
  unfold parse at h
  cases hl : lex t with
  | bad e2 a2 => rw [hl] at h; cases h
  | ok ts =>
    rw [hl] at h
    simp only at h
    obtain ⟨h1, h2⟩ := lex_tok hl
    unfold parseT at h
    cases hr : pStart t.length (ts.length + 1) ts with
    | bad e2 a2 => rw [hr] at h; cases h
    | ok s2 r =>
      rw [hr] at h
      simp only at h
      have := pStart_good _ _ _ _ _ h1 h2 hr
      split at h
      · split at h
        · cases h; exact this.1
        · cases h
      · cases h
end Go.Sta
namespace Go.Proofs
open Go Go.Pd Go.Sta
attribute [local irreducible] OpsL W RetQ OpsQ OpsC
theorem Text_calls2 {s : Sn} {w : World} {kv : Value} (hk : KA w s.kids kv) (hfit : fitS s) (ht : Tabs w) : Calls Tryd.prog 8 #[.agg (snL s kv).toArray] w (fun e w' => ∃ v, e = .returned v ∧ ∃ (sa : Tx) (ea : Int), v = .tuple #[str sa, .int .i64 ea] ∧ (validB s = true → sa = textS s ∧ ea = 0) ∧ (validB s = false → ea = 1) ∧ Ext w w') := by
  refine Calls.mono (Text_calls hk hfit ht) ?_
  rintro e w' ⟨v, he, hv, hx⟩
  cases h : validB s
  · rw [h, if_neg (by decide)] at hv
    exact ⟨v, he, [], 1, hv, (fun h => nomatch h), fun _ => rfl, hx⟩
  · rw [h, if_pos rfl] at hv
    exact ⟨v, he, textS s, 0, hv, fun _ => ⟨rfl, rfl⟩, (fun h => nomatch h), hx⟩
end Go.Proofs
