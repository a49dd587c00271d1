/-
  Slices cut on one side.
-/
import Derived.Test.YtjijmehighoonaaDoorEq
set_option linter.unusedSimpArgs false
set_option linter.unnecessarySimpa false
set_option maxRecDepth 10000
set_option linter.unusedVariables false
namespace Go.Pd
variable {P : Program} {r : Option Nat} {n : Nat}

theorem run_slice_slL {t e k m lo : Nat} {v : Value} {vs : List Value} {kk : IntKind} {i : Int} {w : World} (hu : P.underlying t = some (.slice e)) (hs : sizeT P e = some k) (hv : Sl w v k vs) (hm : vs.length = m * k) (hk : 0 < k) (hi1 : i = (lo : Int)) (h1 : lo ≤ m) :
    ∃ v', (Instr.sliceAt t v (some (.int kk i)) none none).run P w = Result.ok v' w ∧ Sl w v' k (vs.drop (lo * k)) ∧ (∀ M, Off M v → Off M v') := by
  have hc0 := run_slice_sl (kk := kk) (kl := .i64) (i := i) (j := (m : Int)) (lo := lo) (hi := m) hu hs hv hm hk hi1 rfl h1 (Nat.le_refl _)
  rw [List.take_of_length_le (by omega)] at hc0
  obtain ⟨v', h2, h3, h4⟩ := hc0
  refine ⟨v', ?_, h3, h4⟩
  rw [← h2]
  obtain ⟨a, c, rfl, hc⟩ := hv.shape hm hk
  have hb : ∀ hi : Option Value, (hi = none ∨ hi = some (.int .i64 (m : Int))) → (Instr.sliceBounds true m c (some (.int kk i)) hi none).run P w = Result.ok (lo, m, c) w := fun hi hh => by
    unfold Instr.sliceBounds
    rcases hh with rfl | rfl
    · rw [sem_bind (a := c) (w' := w) (by simp [pure, Sem.run])]
      simp only
      rw [sem_bind (a := m) (w' := w) (by simp [pure, Sem.run])]
      rw [sem_bind (a := lo) (w' := w) (run_sliceBound hi1 h1 w)]
      rfl
    · rw [sem_bind (a := c) (w' := w) (by simp [pure, Sem.run])]
      simp only
      rw [sem_bind (a := m) (w' := w) (run_sliceBound rfl hc w)]
      rw [sem_bind (a := lo) (w' := w) (run_sliceBound hi1 h1 w)]
      rfl
  have key : ∀ hi : Option Value, (hi = none ∨ hi = some (.int .i64 (m : Int))) → (Instr.sliceAt t (.slice a m c) (some (.int kk i)) hi none).run P w = Result.ok (.slice (if c = lo then a else a.map (·.add (lo * k))) (m - lo) (c - lo)) w := fun hi hh => by
    unfold Instr.sliceAt
    rw [sem_bind (run_underlying' hu w)]
    simp only
    unfold Instr.slice
    rw [sem_bind (run_underlying' hu w)]
    simp only
    rw [sem_bind (hb hi hh)]
    simp only
    rw [sem_bind (run_sizeT hs w)]
    rfl
  rw [key _ (.inl rfl), key _ (.inr rfl)]

theorem run_slice_slH {t e k m hi : Nat} {v : Value} {vs : List Value} {kk : IntKind} {i : Int} {w : World} (hu : P.underlying t = some (.slice e)) (hs : sizeT P e = some k) (hv : Sl w v k vs) (hm : vs.length = m * k) (hk : 0 < k) (hi1 : i = (hi : Int)) (h1 : hi ≤ m) :
    ∃ v', (Instr.sliceAt t v none (some (.int kk i)) none).run P w = Result.ok v' w ∧ Sl w v' k (vs.take (hi * k)) ∧ (∀ M, Off M v → Off M v') := by
  have hc0 := run_slice_sl (kk := .i64) (kl := kk) (i := 0) (j := i) (lo := 0) (hi := hi) hu hs hv hm hk rfl hi1 (Nat.zero_le _) h1
  rw [Nat.zero_mul, List.drop_zero] at hc0
  obtain ⟨v', h2, h3, h4⟩ := hc0
  refine ⟨v', ?_, h3, h4⟩
  rw [← h2]
  obtain ⟨a, c, rfl, hc⟩ := hv.shape hm hk
  have hb : ∀ lo : Option Value, (lo = none ∨ lo = some (.int .i64 0)) → (Instr.sliceBounds true m c lo (some (.int kk i)) none).run P w = Result.ok (0, hi, c) w := fun lo hh => by
    unfold Instr.sliceBounds
    rcases hh with rfl | rfl
    · rw [sem_bind (a := c) (w' := w) (by simp [pure, Sem.run])]
      simp only
      rw [sem_bind (a := hi) (w' := w) (run_sliceBound hi1 (by omega) w)]
      rfl
    · rw [sem_bind (a := c) (w' := w) (by simp [pure, Sem.run])]
      simp only
      rw [sem_bind (a := hi) (w' := w) (run_sliceBound hi1 (by omega) w)]
      rw [sem_bind (a := 0) (w' := w) (run_sliceBound (kk := .i64) (i := 0) (j := 0) rfl (Nat.zero_le _) w)]
      rfl
  have key : ∀ lo : Option Value, (lo = none ∨ lo = some (.int .i64 0)) → (Instr.sliceAt t (.slice a m c) lo (some (.int kk i)) none).run P w = Result.ok (.slice (if c = 0 then a else a.map (·.add (0 * k))) (hi - 0) (c - 0)) w := fun lo hh => by
    unfold Instr.sliceAt
    rw [sem_bind (run_underlying' hu w)]
    simp only
    unfold Instr.slice
    rw [sem_bind (run_underlying' hu w)]
    simp only
    rw [sem_bind (hb lo hh)]
    simp only
    rw [sem_bind (run_sizeT hs w)]
    rfl
  rw [key _ (.inl rfl), key _ (.inr rfl)]

section
variable {ops : Array Oper} {K : St → World → Prop} {X : List PanicEntry → St → World → Prop} {l : List Oper} {s : St} {w : World}
variable {d : Nat} {ty : TypeId} {p : String} {af : Array Edge} {g : Option (Nat × Bool)}

theorem o_cutvL {t e k m : Nat} {x lo : Operand} {v : Value} {vs : List Value} {kk : IntKind} {i : Int} (a : Nat) (hv : Sl w v k vs) (hm : vs.length = m * k) (h1 : a ≤ m) (hk0 : 0 < k) (hw : Region.wanted ⟨some d, .slice t x (some lo) none none, ty, p, af, g⟩ (yieldedE ops n s) = true) (hu : P.underlying t = some (.slice e)) (hs : sizeT P e = some k)
    (hx : rd n s x = v) (hlo : rd n s lo = .int kk i) (hi1 : i = (a : Int))
    (hk : ∀ v', Sl w v' k (vs.drop (a * k)) → (∀ M, Off M v → Off M v') → OpsL P r n ops K X l (s.set d v') w) : OpsL P r n ops K X (⟨some d, .slice t x (some lo) none none, ty, p, af, g⟩ :: l) s w := by
  obtain ⟨v', hr, hv', ho⟩ := run_slice_slL (kk := kk) hu hs hv hm hk0 hi1 h1
  refine o_val hw ?_ (hk v' hv' ho)
  rw [Oper.semAt_eq _ _ _ (fun c e => by cases e)]
  simp only [execOp, hx, hlo, Option.map_some, Option.map_none]
  rw [sem_bind hr]
  rfl

theorem o_cutvH {t e k m : Nat} {x hi : Operand} {v : Value} {vs : List Value} {kk : IntKind} {i : Int} (a : Nat) (hv : Sl w v k vs) (hm : vs.length = m * k) (h1 : a ≤ m) (hk0 : 0 < k) (hw : Region.wanted ⟨some d, .slice t x none (some hi) none, ty, p, af, g⟩ (yieldedE ops n s) = true) (hu : P.underlying t = some (.slice e)) (hs : sizeT P e = some k)
    (hx : rd n s x = v) (hlo : rd n s hi = .int kk i) (hi1 : i = (a : Int))
    (hk : ∀ v', Sl w v' k (vs.take (a * k)) → (∀ M, Off M v → Off M v') → OpsL P r n ops K X l (s.set d v') w) : OpsL P r n ops K X (⟨some d, .slice t x none (some hi) none, ty, p, af, g⟩ :: l) s w := by
  obtain ⟨v', hr, hv', ho⟩ := run_slice_slH (kk := kk) hu hs hv hm hk0 hi1 h1
  refine o_val hw ?_ (hk v' hv' ho)
  rw [Oper.semAt_eq _ _ _ (fun c e => by cases e)]
  simp only [execOp, hx, hlo, Option.map_some, Option.map_none]
  rw [sem_bind hr]
  rfl
end

theorem flat_take {α : Type} {f : α → List Value} {c : Nat} (hf : ∀ t, (f t).length = c) : ∀ (l : List α) (k : Nat), (l.flatMap f).take (k * c) = (l.take k).flatMap f
  | [], k => by simp
  | a :: l, 0 => by simp
  | a :: l, k + 1 => by
    rw [List.take_succ_cons, List.flatMap_cons, List.flatMap_cons, List.take_append, hf, ← flat_take hf l k]
    rw [List.take_of_length_le (by rw [hf, Nat.add_mul]; omega)]
    congr 2; rw [Nat.add_mul]; omega

theorem flat_drop {α : Type} {f : α → List Value} {c : Nat} (hf : ∀ t, (f t).length = c) : ∀ (l : List α) (k : Nat), (l.flatMap f).drop (k * c) = (l.drop k).flatMap f
  | [], k => by simp
  | a :: l, 0 => by simp
  | a :: l, k + 1 => by
    rw [List.drop_succ_cons, List.flatMap_cons, List.drop_append, hf, ← flat_drop hf l k]
    rw [List.drop_of_length_le (by rw [hf, Nat.add_mul]; omega), List.nil_append]
    congr 1; rw [Nat.add_mul]; omega
end Go.Pd
