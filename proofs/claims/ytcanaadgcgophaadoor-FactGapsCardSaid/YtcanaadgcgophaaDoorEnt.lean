/-
  Entries of maps that are taken first and stored to later.
-/
import Derived.Test.YtcanaadgcgophaaDoorLC
set_option linter.unusedVariables false
set_option linter.unusedSimpArgs false
set_option linter.unnecessarySimpa false
set_option maxRecDepth 10000
set_option linter.unusedSectionVars false
namespace Go.Pd
open Go
variable {P : Program} {α : Type} [DecidableEq α] {f : α → Value}
/-- A map's entries with its clock. -/
structure MapB (f : α → Value) (es : Array MapEntry) (c : Nat) (l : List (α × Value)) : Prop where
  r : MapR f es l
  lt : ∀ (i : Nat) (e : MapEntry), es[i]? = some e → e.born < c
  nd : ∀ (i j : Nat) (e e' : MapEntry), es[i]? = some e → es[j]? = some e' → e.born = e'.born → i = j
theorem MapB.nil (c : Nat) : MapB f #[] c [] := ⟨MapR.nil, fun i e h => by simp at h, fun i j e e' h => by simp at h⟩
theorem find_born {es : Array MapEntry} {c : Nat} {l : List (α × Value)} (h : MapB f es c l) {j : Nat} {e : MapEntry} (hj : es[j]? = some e) : es.findIdx? (fun x => (x.born : Int) == (e.born : Int)) = some j := by
  rw [Array.findIdx?_eq_some_iff_getElem]
  obtain ⟨h1, h2⟩ := Array.getElem?_eq_some_iff.1 hj
  refine ⟨h1, by simp [h2], fun i hi => ?_⟩
  simp only [beq_iff_eq]
  intro he
  have := h.nd i j es[i] e (Array.getElem?_eq_getElem _) hj (by omega)
  omega
theorem run_entryStore {mt b c j born : Nat} {es : Array MapEntry} {l : List (α × Value)} {e : MapEntry} {v : Value} (h : MapB f es c l) (hj : es[j]? = some e) (hb : e.born = born) {w : World} (hw : w.heap[b]? = some (.map es c)) :
    (Instr.entryStore mt (.map (some b)) (.int .i64 (born : Int)) v).run P w = .ok () (w.putObj b (.map (es.modify j fun e => { e with val := v }) c)) := by
  subst hb
  unfold Instr.entryStore
  simp only
  rw [sem_bind (run_getObj' hw)]
  simp only
  rw [sem_bind (a := (e.born : Int)) (w' := w) rfl, find_born h hj]
  exact run_setObj' _ hw
theorem MapB.store {es : Array MapEntry} {c j : Nat} {l : List (α × Value)} (h : MapB f es c l) {a : α} {u : Value} (hj : l[j]? = some (a, u)) (v : Value) : MapB f (es.modify j fun e => { e with val := v }) c (l.set j (a, v)) := by
  refine ⟨⟨?_, ?_⟩, ?_, ?_⟩
  · apply List.ext_getElem?
    intro i
    have := congrArg (fun x => x[i]?) h.r.eq
    simp only [List.getElem?_map] at this
    simp only [List.getElem?_map, Array.getElem?_toList, Array.getElem?_modify, List.getElem?_set]
    have hjl : j < l.length := (List.getElem?_eq_some_iff.1 hj).1
    by_cases hi : j = i
    · subst hi
      rw [hj] at this
      have hje : j < es.size := by rw [h.r.size]; exact hjl
      simp [hje] at this
      simp [hje, hjl, this.1]
    · simp only [if_neg hi]
      simpa using this
  · rw [List.map_set]
    have : (l.map (·.1)).set j a = l.map (·.1) := by
      apply List.ext_getElem?
      intro i
      rw [List.getElem?_set]
      by_cases hi : j = i
      · subst hi
        obtain ⟨h1, h2⟩ := List.getElem?_eq_some_iff.1 hj
        simp [h1, h2]
      · simp [hi]
    simp only [this]
    exact h.r.nd
  · intro i e hi
    rw [Array.getElem?_modify] at hi
    by_cases hij : j = i
    · rw [if_pos hij] at hi
      obtain ⟨e0, h1, rfl⟩ := Option.map_eq_some_iff.1 hi
      exact h.lt i e0 h1
    · rw [if_neg hij] at hi
      exact h.lt i e hi
  · have key : ∀ (i : Nat) (e : MapEntry), (es.modify j fun e => { e with val := v })[i]? = some e → ∃ e0 : MapEntry, es[i]? = some e0 ∧ e0.born = e.born := by
      intro i e hi
      rw [Array.getElem?_modify] at hi
      by_cases hij : j = i
      · rw [if_pos hij] at hi
        obtain ⟨e0, h1, rfl⟩ := Option.map_eq_some_iff.1 hi
        exact ⟨e0, h1, rfl⟩
      · rw [if_neg hij] at hi
        exact ⟨e, hi, rfl⟩
    intro i k e e' hi hk he
    obtain ⟨e0, h1, h2⟩ := key i e hi
    obtain ⟨e1, h3, h4⟩ := key k e' hk
    exact h.nd i k e0 e1 h1 h3 (by omega)
/-- An entry taken for a key: then there is one, and a store to it is an insertion. -/
theorem run_mapEntry {mt kt et : TypeId} {b c : Nat} {es : Array MapEntry} {l : List (α × Value)} {a : α} {z : Value} (hu : P.underlying mt = some (.map kt et)) (hk : Key P kt f) (hz : zeroV P et = some z) (hm : MapB f es c l) :
    ∃ es' c' l' j e u, (∀ w : World, w.heap[b]? = some (.map es c) → (Instr.mapEntry mt (.map (some b)) (f a)).run P w = .ok (.tuple #[(get l a).getD z, .int .i64 (e.born : Int)]) (w.putObj b (.map es' c'))) ∧ MapB f es' c' l' ∧ es'[j]? = some e ∧ l'[j]? = some (a, u) ∧ ∀ v, l'.set j (a, v) = ins l a v := by
  cases hx : assocIdx l a 0 with
  | none =>
    have hget : get l a = none := by rw [← get_assoc l a 0, hx]; rfl
    have hins := fun v => (ins_new l a 0 hx v).1
    refine ⟨es.push { key := f a, val := z, born := c }, c + 1, l ++ [(a, z)], l.length, { key := f a, val := z, born := c }, z, ?_, ⟨⟨?_, ?_⟩, ?_, ?_⟩, ?_, by simp, fun v => ?_⟩
    · intro w hw
      have hfind := run_findKey hk hm.r a w
      rw [hx] at hfind
      unfold Instr.mapEntry
      rw [sem_bind (run_underlying' hu w)]
      simp only
      rw [sem_bind (run_getObj' hw)]
      simp only
      rw [sem_bind (hk.chk _ a w), sem_bind hfind]
      simp only
      rw [sem_bind (run_zeroV hz w), sem_bind (run_setObj' _ hw), hget]
      rfl
    · simp [hm.r.eq]
    · rw [← hins]; exact nodup_ins hm.r.nd a z
    · intro i e hi
      rw [Array.getElem?_push] at hi
      split at hi
      · cases hi; simp
      · have := hm.lt i e hi; omega
    · intro i j e e' hi hj he
      rw [Array.getElem?_push] at hi hj
      split at hi <;> split at hj
      · omega
      · cases hi; have := hm.lt j e' hj; simp at he; omega
      · cases hj; have := hm.lt i e hi; simp at he; omega
      · exact hm.nd i j e e' hi hj he
    · rw [← hm.r.size]; simp
    · rw [hins]; simp
  | some q =>
    obtain ⟨j, u⟩ := q
    obtain ⟨k, hk1, hk2, hk3⟩ := assocIdx_at l a 0 j u hx
    have hj : j = k := by omega
    subst hj
    have hget : get l a = some u := by rw [← get_assoc l a 0, hx]; rfl
    have hjl : j < l.length := (List.getElem?_eq_some_iff.1 hk2).1
    have hje : j < es.size := by rw [hm.r.size]; exact hjl
    have hkey : es[j].key = f a := by
      have := congrArg (fun x => x[j]?) hm.r.eq
      simp [hje, hk2] at this
      exact this.1
    have hmod : (es.modify j fun e => { e with key := f a }) = es := by
      apply Array.ext_getElem?
      intro i
      rw [Array.getElem?_modify]
      by_cases hi : j = i
      · subst hi
        rw [if_pos rfl, Array.getElem?_eq_getElem hje, ← hkey]
        rfl
      · rw [if_neg hi]
    refine ⟨es, c, l, j, es[j], u, ?_, hm, Array.getElem?_eq_getElem hje, hk2, fun v => ((hk3 v).1).symm⟩
    intro w hw
    have hfind := run_findKey hk hm.r a w
    rw [hx] at hfind
    unfold Instr.mapEntry
    rw [sem_bind (run_underlying' hu w)]
    simp only
    rw [sem_bind (run_getObj' hw)]
    simp only
    rw [sem_bind (hk.chk _ a w), sem_bind hfind]
    simp only
    have hks : (Instr.keyThatStays (((es[j]?).map (·.key)).getD (f a)) (f a)).run P w = .ok (f a) w := by
      have e1 : ((es[j]?).map (·.key)).getD (f a) = f a := by simp [hje, hkey]
      rw [e1]
      unfold Instr.keyThatStays
      rw [if_pos (hk.same a)]
      rfl
    rw [sem_bind hks, hmod, sem_bind (run_setObj' _ hw), hget, Array.getElem?_eq_getElem hje]
    rfl
end Go.Pd
