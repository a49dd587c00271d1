/-
  Plain lemmas for the law FinalOne.
-/
import Derived.Test.YtjijmehighoonaaDoorFspec
set_option linter.unusedVariables false
set_option linter.unusedSimpArgs false
set_option linter.unnecessarySimpa false
set_option maxRecDepth 10000
namespace Go.Fin
open Go.Lexs

theorem lastOf_app (L M : List Ver) (m q : List UInt8) : lastOf (L ++ M) m q = (lastOf M m q).or (lastOf L m q) := by
  unfold lastOf
  rw [List.filter_append, List.getLast?_append]

theorem lastOf_idx {A : List Ver} {i : Nat} (hi : i < A.length) (h : ∀ j (hj : j < A.length), i < j → ¬ (A[j].matter = A[i].matter ∧ A[j].question = A[i].question)) : lastOf A A[i].matter A[i].question = some A[i] := by
  have e : A = (A.take i ++ [A[i]]) ++ A.drop (i + 1) := by
    rw [← List.take_succ_eq_append_getElem hi, List.take_append_drop]
  have h0 : lastOf (A.drop (i + 1)) A[i].matter A[i].question = none := by
    rw [lastOf_none]
    intro u hu
    obtain ⟨j, hj, rfl⟩ := List.mem_iff_getElem.1 hu
    rw [List.getElem_drop]
    rw [List.length_drop] at hj
    exact h _ (by omega) (by omega)
  have h1 : lastOf (A.take i ++ [A[i]]) A[i].matter A[i].question = some A[i] := by rw [lastOf_snoc, if_pos ⟨rfl, rfl⟩]
  have h2 := lastOf_app (A.take i ++ [A[i]]) (A.drop (i + 1)) A[i].matter A[i].question
  rw [← e, h0, h1] at h2
  exact h2

theorem one_next {A : List Ver} (h : Good A) {i m : Nat} (him : i < m) (hm : m < A.length) (hmt : A[m].matter = A[i].matter ∧ A[m].question = A[i].question)
    (hno : ∀ j (hj : j < A.length), i < j → j < m → ¬ (A[j].matter = A[i].matter ∧ A[j].question = A[i].question)) : A[m].reopens = A[i].id ∧ A[i].fin = false ∧ standsB A A[i].id = false := by
  have hl : i < (A.take m).length := by rw [List.length_take]; omega
  have h1 : lastOf (A.take m) A[i].matter A[i].question = some A[i] := by
    have := lastOf_idx (A := A.take m) hl (fun j hj hij => by
      rw [List.length_take] at hj
      rw [List.getElem_take, List.getElem_take]
      exact hno j (by omega) hij (by omega))
    rw [List.getElem_take] at this
    exact this
  have h2 := (h.prefix_ (pre := A.take m) (v := A[m]) (post := A.drop (m + 1)) (by rw [← List.drop_eq_getElem_cons hm, List.take_append_drop])).2
  have h3 := (ok_iff.1 h2).old A[i] (by rw [hmt.1, hmt.2]; exact h1)
  refine ⟨h3.1.symm, h3.2, ?_⟩
  rw [h.stands (List.getElem_mem _)]
  rw [decide_eq_false]
  intro hc
  have e : A = A.take m ++ A.drop m := (List.take_append_drop m A).symm
  have h4 := lastOf_app (A.take m) (A.drop m) A[i].matter A[i].question
  rw [← e, hc] at h4
  cases h5 : lastOf (A.drop m) A[i].matter A[i].question with
  | none =>
    have := lastOf_none.1 h5 A[m] (by rw [List.drop_eq_getElem_cons hm]; exact List.mem_cons_self)
    exact this hmt
  | some u =>
    rw [h5] at h4
    simp at h4
    subst h4
    have hmem := (lastOf_mem h5).1
    have hn := h.ids
    rw [e, List.map_append, List.nodup_append] at hn
    refine hn.2.2 A[i].id ?_ A[i].id (List.mem_map_of_mem hmem) rfl
    refine List.mem_map_of_mem ?_
    exact List.mem_take_iff_getElem.2 ⟨i, by omega, rfl⟩

theorem one_last {A : List Ver} (h : Good A) {i : Nat} (hi : i < A.length) (hno : ∀ j (hj : j < A.length), i < j → ¬ (A[j].matter = A[i].matter ∧ A[j].question = A[i].question)) :
    standsB A A[i].id = true ∧ valueOf A A[i].matter A[i].question = some A[i].value := by
  have h1 := lastOf_idx hi hno
  refine ⟨by rw [h.stands (List.getElem_mem _), h1]; simp, ?_⟩
  unfold valueOf
  rw [h1]
  rfl

/-- What the search for the next one has found, down from the end to k. -/
def Nx (A : List Ver) (i k : Nat) (o : Option Nat) : Prop :=
  match o with
  | none => ∀ j (hj : j < A.length) (hi : i < A.length), k ≤ j → ¬ (A[j].matter = A[i].matter ∧ A[j].question = A[i].question)
  | some m => ∃ (hm : m < A.length) (hi : i < A.length), k ≤ m ∧ (A[m].matter = A[i].matter ∧ A[m].question = A[i].question) ∧ ∀ j (hj : j < A.length), k ≤ j → j < m → ¬ (A[j].matter = A[i].matter ∧ A[j].question = A[i].question)

def nxI : Option Nat → Int
  | none => -1
  | some m => (m : Int)

theorem Nx.start (A : List Ver) (i : Nat) : Nx A i A.length none := fun j hj _ h => absurd hj (Nat.not_lt.2 h)
theorem Nx.hit {A : List Ver} {i k : Nat} {o : Option Nat} (h : Nx A i (k + 1) o) (hk : k < A.length) (hi : i < A.length) (hm : A[k].matter = A[i].matter ∧ A[k].question = A[i].question) : Nx A i k (some k) :=
  ⟨hk, hi, Nat.le_refl _, hm, fun j hj h1 h2 => by omega⟩
theorem Nx.miss {A : List Ver} {i k : Nat} {o : Option Nat} (h : Nx A i (k + 1) o) (hk : k < A.length) (hi : i < A.length) (hm : ¬ (A[k].matter = A[i].matter ∧ A[k].question = A[i].question)) : Nx A i k o := by
  cases o with
  | none =>
    intro j hj hi hkj
    by_cases e : j = k
    · subst e; exact hm
    · exact h j hj hi (by omega)
  | some m =>
    obtain ⟨h1, h2, h3, h4, h5⟩ := h
    refine ⟨h1, h2, by omega, h4, fun j hj hkj hjm => ?_⟩
    by_cases e : j = k
    · subst e; exact hm
    · exact h5 j hj (by omega) hjm
end Go.Fin
