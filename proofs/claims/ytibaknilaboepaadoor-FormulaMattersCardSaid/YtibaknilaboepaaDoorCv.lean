/-
  Slices cut on one side, within regions that draw their order: the value does not depend on the world.
-/
import Derived.Test.YtibaknilaboepaaDoorLD
set_option linter.unusedSimpArgs false
set_option linter.unnecessarySimpa false
set_option maxRecDepth 10000
set_option linter.unusedVariables false
namespace Go.Pd
variable {P : Program} {r : Option Nat} {n : Nat}

def cutLv (a : Option Addr) (m c k lo : Nat) : Value := .slice (if c = lo then a else a.map (·.add (lo * k))) (m - lo) (c - lo)
def cutHv (a : Option Addr) (c k hi : Nat) : Value := .slice (if c = 0 then a else a.map (·.add (0 * k))) (hi - 0) (c - 0)

theorem run_cutL {t e k m c lo : Nat} {a : Option Addr} {kk : IntKind} {i : Int} (hu : P.underlying t = some (.slice e)) (hs : sizeT P e = some k) (hc : m ≤ c) (hi1 : i = (lo : Int)) (h1 : lo ≤ m) (w : World) : (Instr.sliceAt t (.slice a m c) (some (.int kk i)) none none).run P w = Result.ok (cutLv a m c k lo) w := by
  have hb : (Instr.sliceBounds true m c (some (.int kk i)) none none).run P w = Result.ok (lo, m, c) w := by
    unfold Instr.sliceBounds
    rw [sem_bind (a := c) (w' := w) (by simp [pure, Sem.run])]
    simp only
    rw [sem_bind (a := m) (w' := w) (by simp [pure, Sem.run])]
    rw [sem_bind (a := lo) (w' := w) (run_sliceBound hi1 h1 w)]
    rfl
  unfold Instr.sliceAt
  rw [sem_bind (run_underlying' hu w)]
  simp only
  unfold Instr.slice
  rw [sem_bind (run_underlying' hu w)]
  simp only
  rw [sem_bind hb]
  simp only
  rw [sem_bind (run_sizeT hs w)]
  rfl

theorem run_cutH {t e k m c hi : Nat} {a : Option Addr} {kk : IntKind} {i : Int} (hu : P.underlying t = some (.slice e)) (hs : sizeT P e = some k) (hc : m ≤ c) (hi1 : i = (hi : Int)) (h1 : hi ≤ m) (w : World) : (Instr.sliceAt t (.slice a m c) none (some (.int kk i)) none).run P w = Result.ok (cutHv a c k hi) w := by
  have hb : (Instr.sliceBounds true m c none (some (.int kk i)) none).run P w = Result.ok (0, hi, c) w := by
    unfold Instr.sliceBounds
    rw [sem_bind (a := c) (w' := w) (by simp [pure, Sem.run])]
    simp only
    rw [sem_bind (a := hi) (w' := w) (run_sliceBound hi1 (by omega) w)]
    rfl
  unfold Instr.sliceAt
  rw [sem_bind (run_underlying' hu w)]
  simp only
  unfold Instr.slice
  rw [sem_bind (run_underlying' hu w)]
  simp only
  rw [sem_bind hb]
  simp only
  rw [sem_bind (run_sizeT hs w)]
  rfl

theorem cutL_sl {t e k m c lo : Nat} {a : Option Addr} {vs : List Value} {w : World} (hu : P.underlying t = some (.slice e)) (hs : sizeT P e = some k) (hv : Sl w (.slice a m c) k vs) (hm : vs.length = m * k) (hk : 0 < k) (hc : m ≤ c) (h1 : lo ≤ m) : Sl w (cutLv a m c k lo) k (vs.drop (lo * k)) ∧ ∀ M, Off M (.slice a m c) → Off M (cutLv a m c k lo) := by
  obtain ⟨v', h2, h3, h4⟩ := run_slice_slL (kk := .i64) (i := (lo : Int)) hu hs hv hm hk rfl h1
  have h5 := run_cutL (kk := .i64) (i := (lo : Int)) (a := a) hu hs hc rfl h1 w
  rw [h2] at h5
  injection h5 with h6 h7
  subst h6
  exact ⟨h3, h4⟩
theorem cutH_sl {t e k m c hi : Nat} {a : Option Addr} {vs : List Value} {w : World} (hu : P.underlying t = some (.slice e)) (hs : sizeT P e = some k) (hv : Sl w (.slice a m c) k vs) (hm : vs.length = m * k) (hk : 0 < k) (hc : m ≤ c) (h1 : hi ≤ m) : Sl w (cutHv a c k hi) k (vs.take (hi * k)) ∧ ∀ M, Off M (.slice a m c) → Off M (cutHv a c k hi) := by
  obtain ⟨v', h2, h3, h4⟩ := run_slice_slH (kk := .i64) (i := (hi : Int)) hu hs hv hm hk rfl h1
  have h5 := run_cutH (kk := .i64) (i := (hi : Int)) (a := a) hu hs hc rfl h1 w
  rw [h2] at h5
  injection h5 with h6 h7
  subst h6
  exact ⟨h3, h4⟩

section
variable {s : St} {ty : TypeId} {p : String} {af : Array Edge} {g : Option (Nat × Bool)} {d : Option Nat}
theorem r_slcL {t e k m c lo : Nat} {a : Option Addr} {kk : IntKind} {i : Int} {x l : Operand} (hu : P.underlying t = some (.slice e)) (hs : sizeT P e = some k) (hc : m ≤ c) (h1 : lo ≤ m) (hx : rd n s x = .slice a m c) (hl : rd n s l = .int kk i) (hi1 : i = (lo : Int)) (w : World) : (Oper.semAt r (rd n s) ⟨d, .slice t x (some l) none none, ty, p, af, g⟩).run P w = .ok (.value (cutLv a m c k lo)) w := by
  rw [Oper.semAt_eq _ _ _ (fun c e => by cases e)]
  simp only [execOp, hx, hl, Option.map_some, Option.map_none]
  rw [sem_bind (run_cutL hu hs hc hi1 h1 w)]
  rfl
theorem r_slcH {t e k m c hi : Nat} {a : Option Addr} {kk : IntKind} {i : Int} {x l : Operand} (hu : P.underlying t = some (.slice e)) (hs : sizeT P e = some k) (hc : m ≤ c) (h1 : hi ≤ m) (hx : rd n s x = .slice a m c) (hl : rd n s l = .int kk i) (hi1 : i = (hi : Int)) (w : World) : (Oper.semAt r (rd n s) ⟨d, .slice t x none (some l) none, ty, p, af, g⟩).run P w = .ok (.value (cutHv a c k hi)) w := by
  rw [Oper.semAt_eq _ _ _ (fun c e => by cases e)]
  simp only [execOp, hx, hl, Option.map_some, Option.map_none]
  rw [sem_bind (run_cutH hu hs hc hi1 h1 w)]
  rfl
end
end Go.Pd
