/-
  Ranging over a map that stays as it is: the iterator, in plain words.
-/
import Derived.Test.YtcanaadgcgophaaDoorEnt
import Derived.Maps.RangeRun
set_option linter.unusedVariables false
set_option linter.unusedSimpArgs false
set_option linter.unnecessarySimpa false
set_option maxRecDepth 10000
namespace Go.Pd
open Go
section
variable {P : Program} {r : Option Nat} {n : Nat} {ops : Array Oper} {K : St → World → Prop} {X : List PanicEntry → St → World → Prop} {lo : List Oper} {s : St} {w w0 : World} {M : Nat → Prop} {bl : List (Nat × Obj)}
variable {d : Nat} {ty : TypeId} {p : String} {af : Array Edge} {g : Option (Nat × Bool)}
theorem o_range {t kt et : TypeId} {x : Operand} {b c : Nat} {es : Array MapEntry} (hl : LH w0 M w bl) (hb : w.heap[b]? = some (.map es c)) (hw : Region.wanted ⟨some d, .range t x, ty, p, af, g⟩ (yieldedE ops n s) = true) (hu : P.underlying t = some (.map kt et)) (hx : rd n s x = .map (some b))
    (hk : ∀ q w', w0.heap.size ≤ q → LH w0 M w' ((q, .mapIter (some b) c #[] c) :: bl) → w'.heap[b]? = some (.map es c) → OpsL P r n ops K X lo (s.set d (.pointer (some ⟨q, 0, none⟩))) w') : OpsL P r n ops K X (⟨some d, .range t x, ty, p, af, g⟩ :: lo) s w := by
  have hlt : b < w.heap.size := (Array.getElem?_eq_some_iff.1 hb).1
  refine o_val (w' := w.alloc (.mapIter (some b) c #[] c)) hw ?_ (hk w.heap.size _ hl.upd.size (hl.alloc _) ?_)
  · rw [Oper.semAt_eq _ _ _ (fun c e => by cases e)]
    simp only [execOp, hx]
    rw [sem_bind (run_range_map w t kt et b es c hu hb)]
    rfl
  · show (w.heap.push _)[b]? = _
    rw [Array.getElem?_push_lt hlt, ← hb, Array.getElem?_eq_getElem hlt]
theorem o_next {x : Operand} {b q since c0 clock i : Nat} {seen : Array Nat} {es : Array MapEntry} (hl : LH w0 M w bl) (hi : bl[i]? = some (q, .mapIter (some b) since seen c0)) (hb : w.heap[b]? = some (.map es clock)) (hold : ∀ e ∈ es.toList, e.born < since) (hsc : since ≤ c0) (hw : Region.wanted ⟨some d, .next x false, ty, p, af, g⟩ (yieldedE ops n s) = true) (hx : rd n s x = .pointer (some ⟨q, 0, none⟩))
    (hk0 : (∀ e ∈ es.toList, seen.contains e.born = true) → OpsL P r n ops K X lo (s.set d (.tuple #[.bool false])) w)
    (hk1 : ∀ e w', e ∈ es.toList → seen.contains e.born = false → LH w0 M w' (bl.set i (q, .mapIter (some b) since (seen.push e.born) clock)) → w'.heap[b]? = some (.map es clock) → OpsL P r n ops K X lo (s.set d (.tuple #[.bool true, e.key, e.val])) w') : OpsL P r n ops K X (⟨some d, .next x false, ty, p, af, g⟩ :: lo) s w := by
  have hr := hl.get i hi
  have hne : q ≠ b := fun e => by rw [e, hb] at hr; cases hr
  rcases run_next_at (P := P) w ty q b since c0 seen es clock hr hb hold hsc with ⟨h0, hrun⟩ | ⟨e, he, w1, hal, hrun⟩
  · refine o_val (w' := w) hw ?_ (hk0 fun e he => ?_)
    · rw [Oper.semAt_eq _ _ _ (fun c e => by cases e)]
      simp only [execOp, hx]
      rw [sem_bind hrun]
      rfl
    · by_cases hc : seen.contains e.born = true
      · exact hc
      · exfalso
        have : e ∈ leftOf es seen := by
          unfold leftOf
          rw [Array.mem_filter]
          exact ⟨by simpa using he, by simpa using hc⟩
        rw [Array.eq_empty_of_size_eq_zero h0] at this
        simp at this
  · have hmem : e ∈ es.toList ∧ seen.contains e.born = false := by
      unfold leftOf at he
      have : e ∈ Array.filter (fun e => !seen.contains e.born) es := by simpa using he
      rw [Array.mem_filter] at this
      exact ⟨by simpa using this.1, by simpa using this.2⟩
    have hset : SetAt w (ChangeMaps.setBlock w1 q (.mapIter (some b) since (seen.push e.born) clock)) q (.mapIter (some b) since (seen.push e.born) clock) := by
      rcases hal with rfl | rfl <;> exact ⟨rfl, rfl, rfl⟩
    refine o_val (w' := ChangeMaps.setBlock w1 q (.mapIter (some b) since (seen.push e.born) clock)) hw ?_ (hk1 e _ hmem.1 hmem.2 (hl.put i hi hset) ?_)
    · rw [Oper.semAt_eq _ _ _ (fun c e => by cases e)]
      simp only [execOp, hx]
      rw [sem_bind hrun]
      rfl
    · rw [hset.1, Array.getElem?_setIfInBounds_ne hne]
      exact hb
theorem o_entry {x : Operand} {b q since clock : Nat} {seen : Array Nat} {es : Array MapEntry} {e : MapEntry} (hr : w.heap[q]? = some (.mapIter (some b) since (seen.push e.born) clock)) (hb : w.heap[b]? = some (.map es clock)) (he : e ∈ es.toList) (hn : (es.toList.map (·.born)).Nodup) (hw : Region.wanted ⟨some d, .entry x, ty, p, af, g⟩ (yieldedE ops n s) = true) (hx : rd n s x = .pointer (some ⟨q, 0, none⟩))
    (hk : OpsL P r n ops K X lo (s.set d (.tuple #[e.key, e.val])) w) : OpsL P r n ops K X (⟨some d, .entry x, ty, p, af, g⟩ :: lo) s w := by
  refine o_val (w' := w) hw ?_ hk
  rw [Oper.semAt_eq _ _ _ (fun c e => by cases e)]
  simp only [execOp, hx]
  rw [sem_bind (run_entry_at w q b since seen es clock e hr hb he hn)]
  rfl
/-! ### Entries laid one after the other -/
theorem MapB.push {α : Type} {f : α → Value} {es : Array MapEntry} {c : Nat} {l : List (α × Value)} (h : MapB f es c l) {a : α} (hn : a ∉ l.map (·.1)) (v : Value) : MapB f (es.push { key := f a, val := v, born := c }) (c + 1) (l ++ [(a, v)]) := by
  refine ⟨⟨by simp [h.r.eq], ?_⟩, fun i e he => ?_, fun i j e e' he he' hb => ?_⟩
  · rw [List.map_append, List.nodup_append]
    refine ⟨h.r.nd, by simp, fun x hx y hy e => hn ?_⟩
    have : y = a := by simpa using hy
    rw [← this, ← e]
    exact hx
  · rw [Array.getElem?_push] at he
    split at he
    · cases he; simp
    · have := h.lt i e he; omega
  · rw [Array.getElem?_push] at he he'
    split at he <;> split at he'
    · omega
    · have := h.lt j e' he'
      cases he
      simp only at hb
      omega
    · have := h.lt i e he
      cases he'
      simp only at hb
      omega
    · exact h.nd i j e e' he he' hb
theorem assocIdx_none {α : Type} [DecidableEq α] : ∀ (l : List (α × Value)) (a : α) (i : Nat), a ∉ l.map (·.1) → assocIdx l a i = none
  | [], a, i, _ => rfl
  | p :: l, a, i, h => by
    simp only [List.map_cons, List.mem_cons, not_or] at h
    unfold assocIdx
    rw [if_neg (by first | exact fun e => h.1 e.symm | exact fun e => h.1 e)]
    exact assocIdx_none l a (i + 1) h.2
theorem o_insertB {α : Type} [DecidableEq α] {f : α → Value} {mt kt et : TypeId} {m kx x : Operand} {b c : Nat} {es : Array MapEntry} {l : List (α × Value)} {v : Value} (a : α) (hl : LH w0 M w bl) (i : Nat) (hi : bl[i]? = some (b, .map es c)) (hm : MapB f es c l) (hn : a ∉ l.map (·.1)) (hk : Key P kt f) (hw : Region.wanted ⟨none, .insert mt m kx x, ty, p, af, g⟩ (yieldedE ops n s) = true) (hu : P.underlying mt = some (.map kt et))
    (hx : rd n s m = .map (some b)) (hix : rd n s kx = f a) (hv : rd n s x = v) (hkk : ∀ w' es', MapB f es' (c + 1) (l ++ [(a, v)]) → LH w0 M w' (bl.set i (b, .map es' (c + 1))) → OpsL P r n ops K X lo s w') : OpsL P r n ops K X (⟨none, .insert mt m kx x, ty, p, af, g⟩ :: lo) s w := by
  have hfind := run_findKey hk hm.r a w
  rw [assocIdx_none l a 0 hn] at hfind
  refine o_unit (w' := w.putObj b (.map (es.push { key := f a, val := v, born := c }) (c + 1))) hw ?_ (hkk _ _ (hm.push hn v) (hl.put i hi ⟨rfl, rfl, rfl⟩))
  have hr : (Instr.mapUpdate mt (.map (some b)) (f a) v).run P w = .ok () (w.putObj b (.map (es.push { key := f a, val := v, born := c }) (c + 1))) := by
    unfold Instr.mapUpdate
    rw [sem_bind (run_underlying' hu w)]
    simp only
    rw [sem_bind (run_getObj' (hl.get i hi))]
    simp only
    rw [sem_bind (hk.chk _ a w), sem_bind hfind]
    exact run_setObj' _ (hl.get i hi)
  rw [Oper.semAt_eq _ _ _ (fun c e => by cases e)]
  simp only [execOp, hx, hix, hv]
  rw [sem_bind hr]
  rfl
/-! ### What is seen -/
theorem MapB.entry {α : Type} {f : α → Value} {es : Array MapEntry} {c : Nat} {l : List (α × Value)} (h : MapB f es c l) {e : MapEntry} (he : e ∈ es.toList) : ∃ q ∈ l, e.key = f q.1 ∧ e.val = q.2 := by
  have h1 : (e.key, e.val) ∈ es.toList.map (fun e => (e.key, e.val)) := List.mem_map_of_mem he
  rw [h.r.eq] at h1
  obtain ⟨q, hq, hqe⟩ := List.mem_map.1 h1
  simp only [Prod.mk.injEq] at hqe
  exact ⟨q, hq, hqe.1.symm, hqe.2.symm⟩
theorem MapB.mem {α : Type} {f : α → Value} {es : Array MapEntry} {c : Nat} {l : List (α × Value)} (h : MapB f es c l) {q : α × Value} (hq : q ∈ l) : ∃ e ∈ es.toList, e.key = f q.1 ∧ e.val = q.2 := by
  have h1 : (f q.1, q.2) ∈ l.map (fun p => (f p.1, p.2)) := List.mem_map_of_mem (f := fun p => (f p.1, p.2)) hq
  rw [← h.r.eq] at h1
  obtain ⟨e, he, hqe⟩ := List.mem_map.1 h1
  simp only [Prod.mk.injEq] at hqe
  exact ⟨e, he, hqe.1, hqe.2⟩
theorem MapB.old {α : Type} {f : α → Value} {es : Array MapEntry} {c : Nat} {l : List (α × Value)} (h : MapB f es c l) : ∀ e ∈ es.toList, e.born < c := fun e he => by
  obtain ⟨i, hi, rfl⟩ := List.mem_iff_getElem.1 he
  exact h.lt i _ (by rw [← Array.getElem?_toList, List.getElem?_eq_getElem hi])
theorem MapB.bornNd {α : Type} {f : α → Value} {es : Array MapEntry} {c : Nat} {l : List (α × Value)} (h : MapB f es c l) : (es.toList.map (·.born)).Nodup := by
  rw [List.nodup_iff_pairwise_ne, List.pairwise_iff_getElem]
  intro i j hi hj hij hb
  rw [List.length_map] at hi hj
  simp only [List.getElem_map] at hb
  have := h.nd i j _ _ (by rw [← Array.getElem?_toList, List.getElem?_eq_getElem hi]) (by rw [← Array.getElem?_toList, List.getElem?_eq_getElem hj]) hb
  omega
/-- How many entries are still to come. -/
def leftN (es : Array MapEntry) (seen : Array Nat) : Nat := (es.toList.filter fun e => !seen.contains e.born).length
theorem filter_ltB {β : Type} {q q' : β → Bool} {l : List β} (h : ∀ x, q' x = true → q x = true) {x : β} (hx : x ∈ l) (h1 : q x = true) (h2 : q' x = false) : (l.filter q').length < (l.filter q).length := by
  induction l with
  | nil => cases hx
  | cons a l ih =>
    have hle : (l.filter q').length ≤ (l.filter q).length := by
      clear ih hx
      induction l with
      | nil => simp
      | cons b l ih =>
        rw [List.filter_cons, List.filter_cons]
        by_cases hb : q' b = true
        · rw [if_pos hb, if_pos (h b hb)]; simpa using ih
        · rw [if_neg hb]; split <;> (try simp only [List.length_cons]) <;> omega
    rw [List.filter_cons, List.filter_cons]
    rcases List.mem_cons.1 hx with rfl | hx
    · rw [h2, h1, if_neg (by decide), if_pos rfl]; simp; omega
    · have := ih hx
      by_cases hb : q' a = true
      · rw [if_pos hb, if_pos (h a hb)]; simpa using this
      · rw [if_neg hb]; split <;> (try simp only [List.length_cons]) <;> omega
theorem leftN_push {es : Array MapEntry} {seen : Array Nat} {e : MapEntry} (he : e ∈ es.toList) (hs : seen.contains e.born = false) : leftN es (seen.push e.born) < leftN es seen := by
  refine filter_ltB (fun x hx => ?_) he (by rw [hs]; rfl) (by simp)
  simp only [Bool.not_eq_true', Array.contains_push, Bool.or_eq_false_iff] at hx ⊢
  first | exact hx.1 | exact hx.2
end
end Go.Pd
