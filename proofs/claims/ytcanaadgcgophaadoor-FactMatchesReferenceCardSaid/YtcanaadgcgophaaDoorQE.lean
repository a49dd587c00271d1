/-
  Entries of maps that are taken first and stored to later.
-/
import Derived.Test.YtcanaadgcgophaaDoorQLC
import Derived.Maps.RangeRun
set_option linter.unusedVariables false
set_option linter.unusedSimpArgs false
set_option linter.unnecessarySimpa false
set_option maxRecDepth 10000
set_option linter.unusedSectionVars false
namespace Go.Pd
open Go
variable {P : Program} {α : Type} [DecidableEq α] {f : α → Value}
structure MapB (f : α → Value) (es : Array MapEntry) (c : Nat) (l : List (α × Value)) : Prop where
  r : MapR f es l
  lt : ∀ (i : Nat) (e : MapEntry), es[i]? = some e → e.born < c
  nd : ∀ (i j : Nat) (e e' : MapEntry), es[i]? = some e → es[j]? = some e' → e.born = e'.born → i = j
theorem MapB.nil (c : Nat) : MapB f #[] c [] := ⟨MapR.nil, fun i e h => by simp at h, fun i j e e' h => by simp at h⟩
end Go.Pd

set_option linter.unusedVariables false
set_option linter.unusedSimpArgs false
set_option linter.unnecessarySimpa false
set_option maxRecDepth 10000
namespace Go.Pd
open Go
section
variable {P : Program} {r : Option Nat} {n : Nat} {ops : Array Oper} {K : St → World → Prop} {X : List PanicEntry → St → World → Prop} {lo : List Oper} {s : St} {w w0 : World} {M : Nat → Prop} {bl : List (Nat × Obj)}
variable {d : Nat} {ty : TypeId} {p : String} {af : Array Edge} {g : Option (Nat × Bool)}
/-! ### Entries laid one after the other -/
theorem MapB.push {α : Type} {f : α → Value} {es : Array MapEntry} {c : Nat} {l : List (α × Value)} (h : MapB f es c l) {a : α} (hn : a ∉ l.map (·.1)) (v : Value) : MapB f (es.push { key := f a, val := v, born := c }) (c + 1) (l ++ [(a, v)]) := by
  refine ⟨⟨by simp [h.r.eq], ?_⟩, fun i e he => ?_, fun i j e e' he he' hb => ?_⟩
  · rw [List.map_append, List.nodup_append]
    refine ⟨h.r.nd, by simp, fun x hx y hy e => hn ?_⟩
    have : y = a := by simpa using hy
    rw [← this, ← e]
    exact hx
  · rw [Array.getElem?_push] at he
    split at he
    · cases he; simp
    · have := h.lt i e he; omega
  · rw [Array.getElem?_push] at he he'
    split at he <;> split at he'
    · omega
    · have := h.lt j e' he'
      cases he
      simp only at hb
      omega
    · have := h.lt i e he
      cases he'
      simp only at hb
      omega
    · exact h.nd i j e e' he he' hb
theorem assocIdx_none {α : Type} [DecidableEq α] : ∀ (l : List (α × Value)) (a : α) (i : Nat), a ∉ l.map (·.1) → assocIdx l a i = none
  | [], a, i, _ => rfl
  | p :: l, a, i, h => by
    simp only [List.map_cons, List.mem_cons, not_or] at h
    unfold assocIdx
    rw [if_neg (by first | exact fun e => h.1 e.symm | exact fun e => h.1 e)]
    exact assocIdx_none l a (i + 1) h.2
theorem o_insertB {α : Type} [DecidableEq α] {f : α → Value} {mt kt et : TypeId} {m kx x : Operand} {b c : Nat} {es : Array MapEntry} {l : List (α × Value)} {v : Value} (a : α) (hl : LH w0 M w bl) (i : Nat) (hi : bl[i]? = some (b, .map es c)) (hm : MapB f es c l) (hn : a ∉ l.map (·.1)) (hk : Key P kt f) (hw : Region.wanted ⟨none, .insert mt m kx x, ty, p, af, g⟩ (yieldedE ops n s) = true) (hu : P.underlying mt = some (.map kt et))
    (hx : rd n s m = .map (some b)) (hix : rd n s kx = f a) (hv : rd n s x = v) (hkk : ∀ w' es', MapB f es' (c + 1) (l ++ [(a, v)]) → LH w0 M w' (bl.set i (b, .map es' (c + 1))) → OpsL P r n ops K X lo s w') : OpsL P r n ops K X (⟨none, .insert mt m kx x, ty, p, af, g⟩ :: lo) s w := by
  have hfind := run_findKey hk hm.r a w
  rw [assocIdx_none l a 0 hn] at hfind
  refine o_unit (w' := w.putObj b (.map (es.push { key := f a, val := v, born := c }) (c + 1))) hw ?_ (hkk _ _ (hm.push hn v) (hl.put i hi ⟨rfl, rfl, rfl⟩))
  have hr : (Instr.mapUpdate mt (.map (some b)) (f a) v).run P w = .ok () (w.putObj b (.map (es.push { key := f a, val := v, born := c }) (c + 1))) := by
    unfold Instr.mapUpdate
    rw [sem_bind (run_underlying' hu w)]
    simp only
    rw [sem_bind (run_getObj' (hl.get i hi))]
    simp only
    rw [sem_bind (hk.chk _ a w), sem_bind hfind]
    exact run_setObj' _ (hl.get i hi)
  rw [Oper.semAt_eq _ _ _ (fun c e => by cases e)]
  simp only [execOp, hx, hix, hv]
  rw [sem_bind hr]
  rfl
/-! ### What is seen -/
end
end Go.Pd
