/-
  Cases: the names that a reader still waits for; plain Lean.
-/
import Derived.Test.YtcanaadgcgophaaDoorQFA
import Derived.Test.YtcanaadgcgophaaDoorQLC
set_option linter.unusedVariables false
set_option linter.unusedSimpArgs false
set_option linter.unnecessarySimpa false
set_option maxRecDepth 10000
namespace Go.Fac
open Go Go.Pd
open Go.Fo
def pend : List Fact → List Bool → List (Tx × Value)
  | f :: F, b :: s => if b then pend F s else (f.name, .bool true) :: pend F s
  | _, _ => []
def allP (F : List Fact) : List (Tx × Value) := F.map fun f => (f.name, .bool true)
theorem pend_all : ∀ F : List Fact, pend F (List.replicate F.length false) = allP F
  | [] => rfl
  | f :: F => by
    rw [List.length_cons, List.replicate_succ]
    simp only [pend, allP, List.map_cons, Bool.false_eq_true, if_false]
    rw [pend_all F, allP]
theorem idx_cons (f : Fact) (F : List Fact) (s : Tx) : idx (f :: F) s = if f.name = s then some 0 else (idx F s).map (· + 1) := by
  unfold idx
  rw [List.findIdx?_cons]
  by_cases h : f.name = s <;> simp [h]
theorem get_pend : ∀ (F : List Fact) (seen : List Bool) (s : Tx), s ∉ F.map (·.name) → get (pend F seen) s = none
  | [], seen, s, h => by cases seen <;> rfl
  | f :: F, [], s, h => rfl
  | f :: F, b :: seen, s, h => by
    simp only [List.map_cons, List.mem_cons, not_or] at h
    simp only [pend]
    split
    · exact get_pend F seen s h.2
    · simp only [Pd.get]
      rw [if_neg h.1]
      exact get_pend F seen s h.2
theorem get_seen : ∀ (F : List Fact) (seen : List Bool) (s : Tx) (i : Nat), (F.map (·.name)).Nodup → seen.length = F.length → idx F s = some i → get (pend F seen) s = if seen.getD i false then none else some (.bool true)
  | [], seen, s, i, hnd, hlen, h => by simp [idx] at h
  | f :: F, [], s, i, hnd, hlen, h => by simp at hlen
  | f :: F, b :: seen, s, i, hnd, hlen, h => by
    rw [List.map_cons, List.nodup_cons] at hnd
    rw [idx_cons] at h
    simp only [List.length_cons] at hlen
    by_cases hf : f.name = s
    · rw [if_pos hf] at h
      cases h
      simp only [pend]
      cases b with
      | true => simpa using get_pend F seen s (hf ▸ hnd.1)
      | false => simp [Pd.get, hf]
    · rw [if_neg hf] at h
      cases hi : idx F s with
      | none => rw [hi] at h; cases h
      | some j =>
        rw [hi] at h
        simp only [Option.map_some, Option.some.injEq] at h
        subst h
        have ih := get_seen F seen s j hnd.2 (by omega) hi
        simp only [pend, List.getD_cons_succ]
        rw [← ih]
        split
        · rfl
        · simp only [Pd.get]
          rw [if_neg (fun h => hf h.symm)]
theorem del_pend : ∀ (F : List Fact) (seen : List Bool) (s : Tx) (i : Nat), seen.length = F.length → idx F s = some i → seen.getD i false = false → del (pend F seen) s = pend F (seen.set i true)
  | [], seen, s, i, hlen, h, hs => by simp [idx] at h
  | f :: F, [], s, i, hlen, h, hs => by simp at hlen
  | f :: F, b :: seen, s, i, hlen, h, hs => by
    rw [idx_cons] at h
    simp only [List.length_cons] at hlen
    by_cases hf : f.name = s
    · rw [if_pos hf] at h
      cases h
      simp only [List.getD_cons_zero] at hs
      subst hs
      simp [pend, del, hf]
    · rw [if_neg hf] at h
      cases hi : idx F s with
      | none => rw [hi] at h; cases h
      | some j =>
        rw [hi] at h
        simp only [Option.map_some, Option.some.injEq] at h
        subst h
        simp only [List.getD_cons_succ] at hs
        have ih := del_pend F seen s j (by omega) hi hs
        simp only [pend, List.set_cons_succ]
        rw [← ih]
        split
        · rfl
        · simp only [del]
          rw [if_neg (fun h => hf h.symm)]
theorem pend_nil : ∀ (F : List Fact) (seen : List Bool), seen.length = F.length → ((pend F seen).length = 0 ↔ seen.all id = true)
  | [], [], _ => by simp [pend]
  | [], b :: s, h => by simp at h
  | f :: F, [], h => by simp at h
  | f :: F, b :: s, h => by
    simp only [List.length_cons] at h
    have ih := pend_nil F s (by omega)
    cases b <;> simp [pend, ← ih]
theorem ins_fresh : ∀ (l : List (Tx × Value)) (a : Tx) (v : Value), a ∉ l.map (·.1) → ins l a v = l ++ [(a, v)]
  | [], a, v, h => rfl
  | (b, u) :: l, a, v, h => by
    simp only [List.map_cons, List.mem_cons, not_or] at h
    simp only [ins]
    rw [if_neg h.1, ins_fresh l a v h.2]
    rfl
theorem ins_take {F : List Fact} (hnd : (F.map (·.name)).Nodup) {k : Nat} (hk : k < F.length) : ins (allP (F.take k)) F[k].name (.bool true) = allP (F.take (k + 1)) := by
  have hn : F[k].name ∉ (allP (F.take k)).map (·.1) := by
    intro h
    simp only [allP, List.map_map, List.mem_map, Function.comp] at h
    obtain ⟨f, hf, he⟩ := h
    obtain ⟨j, hj, rfl⟩ := List.mem_iff_getElem.1 hf
    simp only [List.getElem_take] at he
    rw [List.length_take] at hj
    have he' : (F.map (·.name))[j]'(by simp; omega) = (F.map (·.name))[k]'(by simpa using hk) := by simpa using he
    exact (List.pairwise_iff_getElem.1 hnd) j k (by simp; omega) (by simpa using hk) (by omega) he'
  rw [ins_fresh _ _ _ hn]
  have h1 : F.take (k + 1) = F.take k ++ [F[k]] := by rw [List.take_succ_eq_append_getElem hk]
  rw [h1]
  simp only [allP, List.map_append, List.map_cons, List.map_nil]
end Go.Fac
