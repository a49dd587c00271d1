/-
  Migrations carried out: plain lemmas (rights laid among others, limits changed one after the other).
-/
import Derived.Test.YtpmjolbnmoejdaaGreatDoorQToTh
set_option linter.unusedVariables false
set_option linter.unusedSimpArgs false
set_option linter.unnecessarySimpa false
set_option maxRecDepth 10000
namespace Go.Top
open Go Go.Pd
def idxR : List Right → Tx → Option Nat
  | [], _ => none
  | q :: l, k => if q.name = k then some 0 else (idxR l k).map (· + 1)
def AtI (R : List Right) (mm : List (Tx × Value)) : Prop := ∀ k, get mm k = (idxR R k).map fun j => Value.int .i64 (j : Int)
theorem atI_nil : AtI [] [] := fun _ => rfl
theorem idx_lt : ∀ {R : List Right} {k : Tx} {j : Nat}, idxR R k = some j → ∃ h : j < R.length, R[j].name = k
  | [], k, j, h => nomatch h
  | q :: l, k, j, h => by
    unfold idxR at h
    split at h
    · rename_i he
      cases h
      exact ⟨by simp, he⟩
    · obtain ⟨i, hi, rfl⟩ := Option.map_eq_some_iff.1 h
      obtain ⟨h1, h2⟩ := idx_lt hi
      exact ⟨by simpa using h1, by simpa using h2⟩
theorem laid_some : ∀ {R : List Right} {r : Right} {j : Nat} (h : idxR R r.name = some j), laid R r = R.set j { name := r.name, since := min (R[j]'(idx_lt h).1).since r.since } ∧ ∀ k, idxR (laid R r) k = idxR R k
  | [], r, j, h => nomatch h
  | q :: l, r, j, h => by
    have h0 := h
    unfold idxR at h
    unfold laid
    split at h
    · rename_i he
      cases h
      refine ⟨?_, fun k => ?_⟩
      · rw [if_pos he]
        simp [← he]
      · rw [if_pos he]
        rfl
    · rename_i he
      obtain ⟨i, hi, rfl⟩ := Option.map_eq_some_iff.1 h
      obtain ⟨h1, h2⟩ := laid_some hi
      refine ⟨?_, fun k => ?_⟩
      · rw [if_neg he, h1]
        simp
      · rw [if_neg he]
        simp only [idxR, h2]
theorem laid_none : ∀ {R : List Right} {r : Right} (h : idxR R r.name = none), laid R r = R ++ [r] ∧ ∀ k, idxR (R ++ [r]) k = if k = r.name then some R.length else idxR R k
  | [], r, h => by
    refine ⟨rfl, fun k => ?_⟩
    simp only [List.nil_append, idxR]
    by_cases hk : r.name = k
    · rw [if_pos hk, if_pos hk.symm]; rfl
    · rw [if_neg hk, if_neg (fun e => hk e.symm)]; rfl
  | q :: l, r, h => by
    unfold idxR at h
    split at h
    · cases h
    · rename_i he
      obtain ⟨h1, h2⟩ := laid_none (Option.map_eq_none_iff.1 h)
      refine ⟨?_, fun k => ?_⟩
      · unfold laid
        rw [if_neg he, h1]
        rfl
      · simp only [List.cons_append, idxR, h2]
        by_cases hq : q.name = k
        · rw [if_pos hq, if_pos hq, if_neg]
          intro e
          exact he (hq.trans e)
        · rw [if_neg hq, if_neg hq]
          by_cases hk : k = r.name
          · rw [if_pos hk, if_pos hk]; rfl
          · rw [if_neg hk, if_neg hk]
theorem laid_len (R : List Right) (r : Right) : (laid R r).length ≤ R.length + 1 := by
  induction R with
  | nil => simp [laid]
  | cons q l ih => unfold laid; split <;> simp; exact ih
theorem carry_len (f : Tx → Tx) : ∀ (l acc : List Right), (carry f l acc).length ≤ acc.length + l.length
  | [], acc => by simp [carry]
  | r :: l, acc => by
    rw [carry_cons]
    have h1 := carry_len f l (laid acc ⟨f r.name, r.since⟩)
    have h2 := laid_len acc ⟨f r.name, r.since⟩
    rw [List.length_cons]
    omega
theorem carry_take (f : Tx → Tx) {l : List Right} {i : Nat} (h : i < l.length) : carry f (l.take (i + 1)) [] = laid (carry f (l.take i) []) ⟨f l[i].name, l[i].since⟩ := by
  rw [List.take_succ_eq_append_getElem h, carry_snoc]
theorem set_flat2 {R : List Right} {junk : List Value} {j : Nat} {n : Tx} {z : Int} (h : j < R.length) (hn : R[j].name = n) : (R.flatMap Go.Proofs.rightL ++ junk).set (j * 2 + 1) (.int .i64 z) = (R.set j ⟨n, z⟩).flatMap Go.Proofs.rightL ++ junk := by
  induction R generalizing j with
  | nil => simp at h
  | cons q l ih =>
    cases j with
    | zero =>
      simp only [List.getElem_cons_zero] at hn
      simp [Go.Proofs.rightL, hn]
    | succ j =>
      have := ih (j := j) (by simpa using h) (by simpa using hn)
      rw [show (j + 1) * 2 + 1 = (j * 2 + 1) + 2 by omega]
      simp only [List.flatMap_cons, Go.Proofs.rightL, List.cons_append, List.nil_append, List.set_cons_succ, List.append_assoc] at this ⊢
      rw [this]
/-! ### Limits, one after the other -/
theorem steps_snoc {ts : List Lim} {day : Int} {x y : Lim} : ∀ {l r : List Lim}, steps ts day l = some r → step ts day x = some y → steps ts day (l ++ [x]) = some (r ++ [y])
  | [], r, h, hx => by
    cases h
    simp [steps, hx]
  | a :: l, r, h, hx => by
    unfold steps at h
    split at h
    · cases h
    · rename_i a2 ha
      split at h
      · cases h
      · rename_i r2 hr
        cases h
        simp only [List.cons_append]
        unfold steps
        rw [ha, steps_snoc hr hx]
theorem steps_stop {ts : List Lim} {day : Int} {x : Lim} {l2 : List Lim} : ∀ {l r : List Lim}, steps ts day l = some r → step ts day x = none → steps ts day (l ++ x :: l2) = none
  | [], r, h, hx => by simp [steps, hx]
  | a :: l, r, h, hx => by
    unfold steps at h
    split at h
    · cases h
    · rename_i a2 ha
      split at h
      · cases h
      · rename_i r2 hr
        cases h
        simp only [List.cons_append]
        unfold steps
        rw [ha, steps_stop hr hx]
theorem changeL_st {l l2 : Lim} {day n u least : Int} (h : changeL l day n u least = some l2) : l2.st = l.st ∧ l2.id = l.id := by
  obtain ⟨e, -, h2⟩ := changeL_out h
  split at h2
  · rw [h2]; exact ⟨rfl, rfl⟩
  · exact ⟨h2.2.1, h2.1⟩
theorem first_take {ts : List Lim} {l : Lim} {k : Nat} (hk : k < ts.length) (hn : ∀ t ∈ ts.take k, t.id ≠ l.id) (he : ts[k].id = l.id) : firstT ts l = some ts[k] := by
  unfold firstT
  have hs : ts.find? (fun t => decide (t.id = l.id)) = (ts.take k ++ ts.drop k).find? (fun t => decide (t.id = l.id)) := by rw [List.take_append_drop]
  rw [hs, List.find?_append]
  have h1 : (ts.take k).find? (fun t => decide (t.id = l.id)) = none := List.find?_eq_none.2 fun t ht => by simpa using hn t ht
  rw [h1, Option.none_or, List.drop_eq_getElem_cons hk, List.find?_cons]
  simp [he]
theorem first_no {ts : List Lim} {l : Lim} (hn : ∀ t ∈ ts, t.id ≠ l.id) : firstT ts l = none := List.find?_eq_none.2 fun t ht => by simpa using hn t ht
end Go.Top
