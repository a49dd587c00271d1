/-
  Entries of maps that are taken first and stored to later.
-/
import Derived.Test.YtebaoilkpedppaaGreatDoorQLC
import Derived.Maps.RangeRun
set_option linter.unusedVariables false
set_option linter.unusedSimpArgs false
set_option linter.unnecessarySimpa false
set_option maxRecDepth 10000
set_option linter.unusedSectionVars false
namespace Go.Pd
open Go
variable {P : Program} {α : Type} [DecidableEq α] {f : α → Value}
structure MapB (f : α → Value) (es : Array MapEntry) (c : Nat) (l : List (α × Value)) : Prop where
  r : MapR f es l
  lt : ∀ (i : Nat) (e : MapEntry), es[i]? = some e → e.born < c
  nd : ∀ (i j : Nat) (e e' : MapEntry), es[i]? = some e → es[j]? = some e' → e.born = e'.born → i = j
theorem MapB.nil (c : Nat) : MapB f #[] c [] := ⟨MapR.nil, fun i e h => by simp at h, fun i j e e' h => by simp at h⟩
theorem find_born {es : Array MapEntry} {c : Nat} {l : List (α × Value)} (h : MapB f es c l) {j : Nat} {e : MapEntry} (hj : es[j]? = some e) : es.findIdx? (fun x => (x.born : Int) == (e.born : Int)) = some j := by
  rw [Array.findIdx?_eq_some_iff_getElem]
  obtain ⟨h1, h2⟩ := Array.getElem?_eq_some_iff.1 hj
  refine ⟨h1, by simp [h2], fun i hi => ?_⟩
  simp only [beq_iff_eq]
  intro he
  have := h.nd i j es[i] e (Array.getElem?_eq_getElem _) hj (by omega)
  omega
theorem run_entryStore {mt b c j born : Nat} {es : Array MapEntry} {l : List (α × Value)} {e : MapEntry} {v : Value} (h : MapB f es c l) (hj : es[j]? = some e) (hb : e.born = born) {w : World} (hw : w.heap[b]? = some (.map es c)) :
    (Instr.entryStore mt (.map (some b)) (.int .i64 (born : Int)) v).run P w = .ok () (w.putObj b (.map (es.modify j fun e => { e with val := v }) c)) := by
  subst hb
  unfold Instr.entryStore
  simp only
  rw [sem_bind (run_getObj' hw)]
  simp only
  rw [sem_bind (a := (e.born : Int)) (w' := w) rfl, find_born h hj]
  exact run_setObj' _ hw
theorem MapB.store {es : Array MapEntry} {c j : Nat} {l : List (α × Value)} (h : MapB f es c l) {a : α} {u : Value} (hj : l[j]? = some (a, u)) (v : Value) : MapB f (es.modify j fun e => { e with val := v }) c (l.set j (a, v)) := by
  refine ⟨⟨?_, ?_⟩, ?_, ?_⟩
  · apply List.ext_getElem?
    intro i
    have := congrArg (fun x => x[i]?) h.r.eq
    simp only [List.getElem?_map] at this
    simp only [List.getElem?_map, Array.getElem?_toList, Array.getElem?_modify, List.getElem?_set]
    have hjl : j < l.length := (List.getElem?_eq_some_iff.1 hj).1
    by_cases hi : j = i
    · subst hi
      rw [hj] at this
      have hje : j < es.size := by rw [h.r.size]; exact hjl
      simp [hje] at this
      simp [hje, hjl, this.1]
    · simp only [if_neg hi]
      simpa using this
  · rw [List.map_set]
    have : (l.map (·.1)).set j a = l.map (·.1) := by
      apply List.ext_getElem?
      intro i
      rw [List.getElem?_set]
      by_cases hi : j = i
      · subst hi
        obtain ⟨h1, h2⟩ := List.getElem?_eq_some_iff.1 hj
        simp [h1, h2]
      · simp [hi]
    simp only [this]
    exact h.r.nd
  · intro i e hi
    rw [Array.getElem?_modify] at hi
    by_cases hij : j = i
    · rw [if_pos hij] at hi
      obtain ⟨e0, h1, rfl⟩ := Option.map_eq_some_iff.1 hi
      exact h.lt i e0 h1
    · rw [if_neg hij] at hi
      exact h.lt i e hi
  · have key : ∀ (i : Nat) (e : MapEntry), (es.modify j fun e => { e with val := v })[i]? = some e → ∃ e0 : MapEntry, es[i]? = some e0 ∧ e0.born = e.born := by
      intro i e hi
      rw [Array.getElem?_modify] at hi
      by_cases hij : j = i
      · rw [if_pos hij] at hi
        obtain ⟨e0, h1, rfl⟩ := Option.map_eq_some_iff.1 hi
        exact ⟨e0, h1, rfl⟩
      · rw [if_neg hij] at hi
        exact ⟨e, hi, rfl⟩
    intro i k e e' hi hk he
    obtain ⟨e0, h1, h2⟩ := key i e hi
    obtain ⟨e1, h3, h4⟩ := key k e' hk
    exact h.nd i k e0 e1 h1 h3 (by omega)
theorem run_mapEntry {mt kt et : TypeId} {b c : Nat} {es : Array MapEntry} {l : List (α × Value)} {a : α} {z : Value} (hu : P.underlying mt = some (.map kt et)) (hk : Key P kt f) (hz : zeroV P et = some z) (hm : MapB f es c l) :
    ∃ es' c' l' j e u, (∀ w : World, w.heap[b]? = some (.map es c) → (Instr.mapEntry mt (.map (some b)) (f a)).run P w = .ok (.tuple #[(get l a).getD z, .int .i64 (e.born : Int)]) (w.putObj b (.map es' c'))) ∧ MapB f es' c' l' ∧ es'[j]? = some e ∧ l'[j]? = some (a, u) ∧ ∀ v, l'.set j (a, v) = ins l a v := by
  cases hx : assocIdx l a 0 with
  | none =>
    have hget : get l a = none := by rw [← get_assoc l a 0, hx]; rfl
    have hins := fun v => (ins_new l a 0 hx v).1
    refine ⟨es.push { key := f a, val := z, born := c }, c + 1, l ++ [(a, z)], l.length, { key := f a, val := z, born := c }, z, ?_, ⟨⟨?_, ?_⟩, ?_, ?_⟩, ?_, by simp, fun v => ?_⟩
    · intro w hw
      have hfind := run_findKey hk hm.r a w
      rw [hx] at hfind
      unfold Instr.mapEntry
      rw [sem_bind (run_underlying' hu w)]
      simp only
      rw [sem_bind (run_getObj' hw)]
      simp only
      rw [sem_bind (hk.chk _ a w), sem_bind hfind]
      simp only
      rw [sem_bind (run_zeroV hz w), sem_bind (run_setObj' _ hw), hget]
      rfl
    · simp [hm.r.eq]
    · rw [← hins]; exact nodup_ins hm.r.nd a z
    · intro i e hi
      rw [Array.getElem?_push] at hi
      split at hi
      · cases hi; simp
      · have := hm.lt i e hi; omega
    · intro i j e e' hi hj he
      rw [Array.getElem?_push] at hi hj
      split at hi <;> split at hj
      · omega
      · cases hi; have := hm.lt j e' hj; simp at he; omega
      · cases hj; have := hm.lt i e hi; simp at he; omega
      · exact hm.nd i j e e' hi hj he
    · rw [← hm.r.size]; simp
    · rw [hins]; simp
  | some q =>
    obtain ⟨j, u⟩ := q
    obtain ⟨k, hk1, hk2, hk3⟩ := assocIdx_at l a 0 j u hx
    have hj : j = k := by omega
    subst hj
    have hget : get l a = some u := by rw [← get_assoc l a 0, hx]; rfl
    have hjl : j < l.length := (List.getElem?_eq_some_iff.1 hk2).1
    have hje : j < es.size := by rw [hm.r.size]; exact hjl
    have hkey : es[j].key = f a := by
      have := congrArg (fun x => x[j]?) hm.r.eq
      simp [hje, hk2] at this
      exact this.1
    have hmod : (es.modify j fun e => { e with key := f a }) = es := by
      apply Array.ext_getElem?
      intro i
      rw [Array.getElem?_modify]
      by_cases hi : j = i
      · subst hi
        rw [if_pos rfl, Array.getElem?_eq_getElem hje, ← hkey]
        rfl
      · rw [if_neg hi]
    refine ⟨es, c, l, j, es[j], u, ?_, hm, Array.getElem?_eq_getElem hje, hk2, fun v => ((hk3 v).1).symm⟩
    intro w hw
    have hfind := run_findKey hk hm.r a w
    rw [hx] at hfind
    unfold Instr.mapEntry
    rw [sem_bind (run_underlying' hu w)]
    simp only
    rw [sem_bind (run_getObj' hw)]
    simp only
    rw [sem_bind (hk.chk _ a w), sem_bind hfind]
    simp only
    have hks : (Instr.keyThatStays (((es[j]?).map (·.key)).getD (f a)) (f a)).run P w = .ok (f a) w := by
      have e1 : ((es[j]?).map (·.key)).getD (f a) = f a := by simp [hje, hkey]
      rw [e1]
      unfold Instr.keyThatStays
      rw [if_pos (hk.same a)]
      rfl
    rw [sem_bind hks, hmod, sem_bind (run_setObj' _ hw), hget, Array.getElem?_eq_getElem hje]
    rfl
end Go.Pd

set_option linter.unusedVariables false
set_option linter.unusedSimpArgs false
set_option linter.unnecessarySimpa false
set_option maxRecDepth 10000
namespace Go.Pd
open Go
section
variable {P : Program} {r : Option Nat} {n : Nat} {ops : Array Oper} {K : St → World → Prop} {X : List PanicEntry → St → World → Prop} {lo : List Oper} {s : St} {w w0 : World} {M : Nat → Prop} {bl : List (Nat × Obj)}
variable {d : Nat} {ty : TypeId} {p : String} {af : Array Edge} {g : Option (Nat × Bool)}
theorem o_range {t kt et : TypeId} {x : Operand} {b c : Nat} {es : Array MapEntry} (hl : LH w0 M w bl) (hb : w.heap[b]? = some (.map es c)) (hw : Region.wanted ⟨some d, .range t x, ty, p, af, g⟩ (yieldedE ops n s) = true) (hu : P.underlying t = some (.map kt et)) (hx : rd n s x = .map (some b))
    (hk : ∀ q w', w0.heap.size ≤ q → LH w0 M w' ((q, .mapIter (some b) c #[] c) :: bl) → w'.heap[b]? = some (.map es c) → OpsL P r n ops K X lo (s.set d (.pointer (some ⟨q, 0, none⟩))) w') : OpsL P r n ops K X (⟨some d, .range t x, ty, p, af, g⟩ :: lo) s w := by
  have hlt : b < w.heap.size := (Array.getElem?_eq_some_iff.1 hb).1
  refine o_val (w' := w.alloc (.mapIter (some b) c #[] c)) hw ?_ (hk w.heap.size _ hl.upd.size (hl.alloc _) ?_)
  · rw [Oper.semAt_eq _ _ _ (fun c e => by cases e)]
    simp only [execOp, hx]
    rw [sem_bind (run_range_map w t kt et b es c hu hb)]
    rfl
  · show (w.heap.push _)[b]? = _
    rw [Array.getElem?_push_lt hlt, ← hb, Array.getElem?_eq_getElem hlt]
theorem o_next {x : Operand} {b q since c0 clock i : Nat} {seen : Array Nat} {es : Array MapEntry} (hl : LH w0 M w bl) (hi : bl[i]? = some (q, .mapIter (some b) since seen c0)) (hb : w.heap[b]? = some (.map es clock)) (hold : ∀ e ∈ es.toList, e.born < since) (hsc : since ≤ c0) (hw : Region.wanted ⟨some d, .next x false, ty, p, af, g⟩ (yieldedE ops n s) = true) (hx : rd n s x = .pointer (some ⟨q, 0, none⟩))
    (hk0 : (∀ e ∈ es.toList, seen.contains e.born = true) → OpsL P r n ops K X lo (s.set d (.tuple #[.bool false])) w)
    (hk1 : ∀ e w', e ∈ es.toList → seen.contains e.born = false → LH w0 M w' (bl.set i (q, .mapIter (some b) since (seen.push e.born) clock)) → w'.heap[b]? = some (.map es clock) → OpsL P r n ops K X lo (s.set d (.tuple #[.bool true, e.key, e.val])) w') : OpsL P r n ops K X (⟨some d, .next x false, ty, p, af, g⟩ :: lo) s w := by
  have hr := hl.get i hi
  have hne : q ≠ b := fun e => by rw [e, hb] at hr; cases hr
  rcases run_next_at (P := P) w ty q b since c0 seen es clock hr hb hold hsc with ⟨h0, hrun⟩ | ⟨e, he, w1, hal, hrun⟩
  · refine o_val (w' := w) hw ?_ (hk0 fun e he => ?_)
    · rw [Oper.semAt_eq _ _ _ (fun c e => by cases e)]
      simp only [execOp, hx]
      rw [sem_bind hrun]
      rfl
    · by_cases hc : seen.contains e.born = true
      · exact hc
      · exfalso
        have : e ∈ leftOf es seen := by
          unfold leftOf
          rw [Array.mem_filter]
          exact ⟨by simpa using he, by simpa using hc⟩
        rw [Array.eq_empty_of_size_eq_zero h0] at this
        simp at this
  · have hmem : e ∈ es.toList ∧ seen.contains e.born = false := by
      unfold leftOf at he
      have : e ∈ Array.filter (fun e => !seen.contains e.born) es := by simpa using he
      rw [Array.mem_filter] at this
      exact ⟨by simpa using this.1, by simpa using this.2⟩
    have hset : SetAt w (ChangeMaps.setBlock w1 q (.mapIter (some b) since (seen.push e.born) clock)) q (.mapIter (some b) since (seen.push e.born) clock) := by
      rcases hal with rfl | rfl <;> exact ⟨rfl, rfl, rfl⟩
    refine o_val (w' := ChangeMaps.setBlock w1 q (.mapIter (some b) since (seen.push e.born) clock)) hw ?_ (hk1 e _ hmem.1 hmem.2 (hl.put i hi hset) ?_)
    · rw [Oper.semAt_eq _ _ _ (fun c e => by cases e)]
      simp only [execOp, hx]
      rw [sem_bind hrun]
      rfl
    · rw [hset.1, Array.getElem?_setIfInBounds_ne hne]
      exact hb
theorem o_entry {x : Operand} {b q since clock : Nat} {seen : Array Nat} {es : Array MapEntry} {e : MapEntry} (hr : w.heap[q]? = some (.mapIter (some b) since (seen.push e.born) clock)) (hb : w.heap[b]? = some (.map es clock)) (he : e ∈ es.toList) (hn : (es.toList.map (·.born)).Nodup) (hw : Region.wanted ⟨some d, .entry x, ty, p, af, g⟩ (yieldedE ops n s) = true) (hx : rd n s x = .pointer (some ⟨q, 0, none⟩))
    (hk : OpsL P r n ops K X lo (s.set d (.tuple #[e.key, e.val])) w) : OpsL P r n ops K X (⟨some d, .entry x, ty, p, af, g⟩ :: lo) s w := by
  refine o_val (w' := w) hw ?_ hk
  rw [Oper.semAt_eq _ _ _ (fun c e => by cases e)]
  simp only [execOp, hx]
  rw [sem_bind (run_entry_at w q b since seen es clock e hr hb he hn)]
  rfl
/-! ### Entries laid one after the other -/
theorem MapB.push {α : Type} {f : α → Value} {es : Array MapEntry} {c : Nat} {l : List (α × Value)} (h : MapB f es c l) {a : α} (hn : a ∉ l.map (·.1)) (v : Value) : MapB f (es.push { key := f a, val := v, born := c }) (c + 1) (l ++ [(a, v)]) := by
  refine ⟨⟨by simp [h.r.eq], ?_⟩, fun i e he => ?_, fun i j e e' he he' hb => ?_⟩
  · rw [List.map_append, List.nodup_append]
    refine ⟨h.r.nd, by simp, fun x hx y hy e => hn ?_⟩
    have : y = a := by simpa using hy
    rw [← this, ← e]
    exact hx
  · rw [Array.getElem?_push] at he
    split at he
    · cases he; simp
    · have := h.lt i e he; omega
  · rw [Array.getElem?_push] at he he'
    split at he <;> split at he'
    · omega
    · have := h.lt j e' he'
      cases he
      simp only at hb
      omega
    · have := h.lt i e he
      cases he'
      simp only at hb
      omega
    · exact h.nd i j e e' he he' hb
theorem assocIdx_none {α : Type} [DecidableEq α] : ∀ (l : List (α × Value)) (a : α) (i : Nat), a ∉ l.map (·.1) → assocIdx l a i = none
  | [], a, i, _ => rfl
  | p :: l, a, i, h => by
    simp only [List.map_cons, List.mem_cons, not_or] at h
    unfold assocIdx
    rw [if_neg (by first | exact fun e => h.1 e.symm | exact fun e => h.1 e)]
    exact assocIdx_none l a (i + 1) h.2
theorem o_insertB {α : Type} [DecidableEq α] {f : α → Value} {mt kt et : TypeId} {m kx x : Operand} {b c : Nat} {es : Array MapEntry} {l : List (α × Value)} {v : Value} (a : α) (hl : LH w0 M w bl) (i : Nat) (hi : bl[i]? = some (b, .map es c)) (hm : MapB f es c l) (hn : a ∉ l.map (·.1)) (hk : Key P kt f) (hw : Region.wanted ⟨none, .insert mt m kx x, ty, p, af, g⟩ (yieldedE ops n s) = true) (hu : P.underlying mt = some (.map kt et))
    (hx : rd n s m = .map (some b)) (hix : rd n s kx = f a) (hv : rd n s x = v) (hkk : ∀ w' es', MapB f es' (c + 1) (l ++ [(a, v)]) → LH w0 M w' (bl.set i (b, .map es' (c + 1))) → OpsL P r n ops K X lo s w') : OpsL P r n ops K X (⟨none, .insert mt m kx x, ty, p, af, g⟩ :: lo) s w := by
  have hfind := run_findKey hk hm.r a w
  rw [assocIdx_none l a 0 hn] at hfind
  refine o_unit (w' := w.putObj b (.map (es.push { key := f a, val := v, born := c }) (c + 1))) hw ?_ (hkk _ _ (hm.push hn v) (hl.put i hi ⟨rfl, rfl, rfl⟩))
  have hr : (Instr.mapUpdate mt (.map (some b)) (f a) v).run P w = .ok () (w.putObj b (.map (es.push { key := f a, val := v, born := c }) (c + 1))) := by
    unfold Instr.mapUpdate
    rw [sem_bind (run_underlying' hu w)]
    simp only
    rw [sem_bind (run_getObj' (hl.get i hi))]
    simp only
    rw [sem_bind (hk.chk _ a w), sem_bind hfind]
    exact run_setObj' _ (hl.get i hi)
  rw [Oper.semAt_eq _ _ _ (fun c e => by cases e)]
  simp only [execOp, hx, hix, hv]
  rw [sem_bind hr]
  rfl
/-! ### What is seen -/
theorem MapB.entry {α : Type} {f : α → Value} {es : Array MapEntry} {c : Nat} {l : List (α × Value)} (h : MapB f es c l) {e : MapEntry} (he : e ∈ es.toList) : ∃ q ∈ l, e.key = f q.1 ∧ e.val = q.2 := by
  have h1 : (e.key, e.val) ∈ es.toList.map (fun e => (e.key, e.val)) := List.mem_map_of_mem he
  rw [h.r.eq] at h1
  obtain ⟨q, hq, hqe⟩ := List.mem_map.1 h1
  simp only [Prod.mk.injEq] at hqe
  exact ⟨q, hq, hqe.1.symm, hqe.2.symm⟩
theorem MapB.mem {α : Type} {f : α → Value} {es : Array MapEntry} {c : Nat} {l : List (α × Value)} (h : MapB f es c l) {q : α × Value} (hq : q ∈ l) : ∃ e ∈ es.toList, e.key = f q.1 ∧ e.val = q.2 := by
  have h1 : (f q.1, q.2) ∈ l.map (fun p => (f p.1, p.2)) := List.mem_map_of_mem (f := fun p => (f p.1, p.2)) hq
  rw [← h.r.eq] at h1
  obtain ⟨e, he, hqe⟩ := List.mem_map.1 h1
  simp only [Prod.mk.injEq] at hqe
  exact ⟨e, he, hqe.1, hqe.2⟩
theorem MapB.old {α : Type} {f : α → Value} {es : Array MapEntry} {c : Nat} {l : List (α × Value)} (h : MapB f es c l) : ∀ e ∈ es.toList, e.born < c := fun e he => by
  obtain ⟨i, hi, rfl⟩ := List.mem_iff_getElem.1 he
  exact h.lt i _ (by rw [← Array.getElem?_toList, List.getElem?_eq_getElem hi])
theorem MapB.bornNd {α : Type} {f : α → Value} {es : Array MapEntry} {c : Nat} {l : List (α × Value)} (h : MapB f es c l) : (es.toList.map (·.born)).Nodup := by
  rw [List.nodup_iff_pairwise_ne, List.pairwise_iff_getElem]
  intro i j hi hj hij hb
  rw [List.length_map] at hi hj
  simp only [List.getElem_map] at hb
  have := h.nd i j _ _ (by rw [← Array.getElem?_toList, List.getElem?_eq_getElem hi]) (by rw [← Array.getElem?_toList, List.getElem?_eq_getElem hj]) hb
  omega
def leftN (es : Array MapEntry) (seen : Array Nat) : Nat := (es.toList.filter fun e => !seen.contains e.born).length
theorem filter_ltB {β : Type} {q q' : β → Bool} {l : List β} (h : ∀ x, q' x = true → q x = true) {x : β} (hx : x ∈ l) (h1 : q x = true) (h2 : q' x = false) : (l.filter q').length < (l.filter q).length := by
  induction l with
  | nil => cases hx
  | cons a l ih =>
    have hle : (l.filter q').length ≤ (l.filter q).length := by
      clear ih hx
      induction l with
      | nil => simp
      | cons b l ih =>
        rw [List.filter_cons, List.filter_cons]
        by_cases hb : q' b = true
        · rw [if_pos hb, if_pos (h b hb)]; simpa using ih
        · rw [if_neg hb]; split <;> (try simp only [List.length_cons]) <;> omega
    rw [List.filter_cons, List.filter_cons]
    rcases List.mem_cons.1 hx with rfl | hx
    · rw [h2, h1, if_neg (by decide), if_pos rfl]; simp; omega
    · have := ih hx
      by_cases hb : q' a = true
      · rw [if_pos hb, if_pos (h a hb)]; simpa using this
      · rw [if_neg hb]; split <;> (try simp only [List.length_cons]) <;> omega
theorem leftN_push {es : Array MapEntry} {seen : Array Nat} {e : MapEntry} (he : e ∈ es.toList) (hs : seen.contains e.born = false) : leftN es (seen.push e.born) < leftN es seen := by
  refine filter_ltB (fun x hx => ?_) he (by rw [hs]; rfl) (by simp)
  simp only [Bool.not_eq_true', Array.contains_push, Bool.or_eq_false_iff] at hx ⊢
  first | exact hx.1 | exact hx.2
end
end Go.Pd
