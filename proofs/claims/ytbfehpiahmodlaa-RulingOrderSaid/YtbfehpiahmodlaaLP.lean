/-
  Rulings: the laws, in plain Lean.
-/
import Derived.Test.YtbfehpiahmodlaaLX
set_option linter.unusedVariables false
set_option linter.unusedSimpArgs false
set_option linter.unnecessarySimpa false
set_option maxRecDepth 10000
namespace Go.Rul
open Go.Lexs Go.Fin Go.Fo

/-! ### Days -/
def cov (s : Spn) (n : Int) : Prop := s.fro ≤ n ∧ (s.til = -1 ∨ n < s.til)
instance (s : Spn) (n : Int) : Decidable (cov s n) := by unfold cov; exact inferInstance
theorem onB_some : ∀ {l : List Spn} {n : Int}, (onB l n).isSome = true ↔ ∃ s ∈ l, cov s n
  | [], n => by simp [onB]
  | s :: l, n => by
    unfold onB
    by_cases h : s.fro ≤ n ∧ (s.til = -1 ∨ n < s.til)
    · rw [if_pos h]
      simp only [Option.isSome_some, true_iff]
      exact ⟨s, List.mem_cons_self, h⟩
    · rw [if_neg h, onB_some]
      simp only [List.mem_cons, exists_eq_or_imp]
      exact ⟨.inr, fun h' => h'.resolve_left h⟩
theorem keep_cov {s : Spn} {a b n : Int} {f : Fm} (hb : -1 ≤ b) : (∃ t ∈ keep s a b f, cov t n) ↔ cov s n ∧ a ≤ n ∧ (b = -1 ∨ n < b) := by
  unfold keep cov
  by_cases h1 : b ≠ -1 ∧ (s.til = -1 ∨ b < s.til)
  · simp only [if_pos h1]
    split
    · simp only [List.mem_singleton, exists_eq_left]; omega
    · simp only [List.not_mem_nil, false_and, exists_false, false_iff]; omega
  · simp only [if_neg h1]
    split
    · simp only [List.mem_singleton, exists_eq_left]; omega
    · simp only [List.not_mem_nil, false_and, exists_false, false_iff]; omega
theorem dayB_iff {n : Int} : dayB n = true ↔ 0 ≤ n ∧ n ≤ 1000000 := by unfold dayB; rw [decide_eq_true_eq]
theorem valid_days {r : Rul} (h : validB r = true) : (0 ≤ r.fro ∧ r.fro ≤ 1000000) ∧ (0 ≤ r.til ∧ r.til ≤ 1000000) ∧ (0 ≤ r.known ∧ r.known ≤ 1000000) ∧ (r.kind = 4 → r.fro < r.til) ∧ 1 ≤ r.kind ∧ r.kind ≤ 6 := by
  unfold validB at h
  simp only [Bool.and_eq_true, dayB_iff] at h
  obtain ⟨⟨⟨⟨⟨-, -⟩, h1⟩, h2⟩, h3⟩, h4⟩ := h
  refine ⟨h1, h2, h3, ?_, ?_⟩
  · intro h
    rw [h] at h4
    simp at h4
    exact h4.2
  · split at h4
    · omega
    · split at h4
      · omega
      · split at h4
        · omega
        · split at h4
          · omega
          · cases h4
theorem kind_valid {r : Rul} (h : validB r = true) : kindOf r = r.kind := by
  obtain ⟨h1, h2, -⟩ := valid_days h
  unfold kindOf
  rw [dayB_iff.2 h1, dayB_iff.2 h2]; rfl
theorem ex_append {p : Spn → Prop} {a b : List Spn} : (∃ t ∈ a ++ b, p t) ↔ (∃ t ∈ a, p t) ∨ ∃ t ∈ b, p t := by
  simp only [List.mem_append, or_and_right, exists_or]
theorem one_cov {r : Rul} (h : validB r = true) (s : Spn) (n : Int) : (∃ t ∈ one1 r.kind r s, cov t n) ↔ cov s n ∧ takesB r n = false := by
  obtain ⟨h1, h2, -, h4, -⟩ := valid_days h
  have he : s.til ≠ -1 ∧ s.til ≤ s.fro → ¬ cov s n := fun h h' => by unfold cov at h'; omega
  unfold one1 takesB
  by_cases hs : s.til ≠ -1 ∧ s.til ≤ s.fro
  · rw [if_pos hs]
    simp only [List.not_mem_nil, false_and, exists_false, false_iff]
    exact fun h => he hs h.1
  rw [if_neg hs]
  have hc : cov s n → s.fro ≤ n := fun h => h.1
  by_cases k1 : r.kind = 1
  · simp [k1]
  by_cases k2 : r.kind = 2
  · rw [if_neg k1, if_pos k2, if_neg k1, if_pos k2, keep_cov (by omega), decide_eq_false_iff_not]
    constructor
    · rintro ⟨a, b, c⟩; exact ⟨a, by omega⟩
    · rintro ⟨a, b⟩; exact ⟨a, hc a, by omega⟩
  by_cases k3 : r.kind = 3
  · rw [if_neg k1, if_neg k2, if_pos k3, if_neg k1, if_neg k2, if_pos k3, keep_cov (by omega), decide_eq_false_iff_not]
    constructor
    · rintro ⟨a, b, c⟩; exact ⟨a, by omega⟩
    · rintro ⟨a, b⟩; exact ⟨a, hc a, by omega⟩
  by_cases k4 : r.kind = 4
  · have := h4 k4
    rw [if_neg k1, if_neg k2, if_neg k3, if_pos k4, if_neg k1, if_neg k2, if_neg k3, if_pos k4, ex_append, keep_cov (by omega), keep_cov (by omega), decide_eq_false_iff_not]
    constructor
    · rintro (⟨a, b, c⟩ | ⟨a, b, c⟩) <;> exact ⟨a, by omega⟩
    · rintro ⟨a, b⟩
      by_cases h : n < r.fro
      · exact .inl ⟨a, hc a, by omega⟩
      · exact .inr ⟨a, by omega, by omega⟩
  rw [if_neg k1, if_neg k2, if_neg k3, if_neg k4, if_neg k1, if_neg k2, if_neg k3, if_neg k4]
  by_cases k5 : r.kind = 5
  · rw [if_pos k5, ex_append, keep_cov (by omega), keep_cov (by omega)]
    constructor
    · rintro (⟨a, b, c⟩ | ⟨a, b, c⟩) <;> exact ⟨a, rfl⟩
    · rintro ⟨a, -⟩
      by_cases h : n < r.fro
      · exact .inl ⟨a, hc a, by omega⟩
      · exact .inr ⟨a, by omega, by omega⟩
  · rw [if_neg k5, keep_cov (by omega)]
    constructor
    · rintro ⟨a, -⟩; exact ⟨a, rfl⟩
    · rintro ⟨a, -⟩; exact ⟨a, hc a, .inl rfl⟩
theorem apply_on {r : Rul} (h : validB r = true) (l : List Spn) (n : Int) : (onB (applyB l r) n).isSome = ((onB l n).isSome && !takesB r n) := by
  rw [Bool.eq_iff_iff, Bool.and_eq_true, onB_some, onB_some, Bool.not_eq_true']
  unfold applyB
  rw [kind_valid h]
  simp only [List.mem_flatMap]
  constructor
  · rintro ⟨t, ⟨s, hs, ht⟩, hc⟩
    obtain ⟨h1, h2⟩ := (one_cov h s n).1 ⟨t, ht, hc⟩
    exact ⟨⟨s, hs, h1⟩, h2⟩
  · rintro ⟨⟨s, hs, hc⟩, h2⟩
    obtain ⟨t, ht, hc'⟩ := (one_cov h s n).2 ⟨hc, h2⟩
    exact ⟨t, ⟨s, hs, ht⟩, hc'⟩
def afterB (l : List Spn) (rs : List Rul) : List Spn := rs.foldl applyB l
theorem after_on (n : Int) : ∀ (rs : List Rul) (l : List Spn), (∀ r ∈ rs, validB r = true) → (onB (afterB l rs) n).isSome = ((onB l n).isSome && rs.all fun r => !takesB r n)
  | [], l, _ => by simp [afterB]
  | r :: rs, l, h => by
    show (onB (afterB (applyB l r) rs) n).isSome = _
    rw [after_on n rs _ fun x hx => h x (List.mem_cons_of_mem _ hx), apply_on (h r List.mem_cons_self), List.all_cons, Bool.and_assoc]
theorem order_law (n : Int) (l : List Spn) (rs : List Rul) (h : ∀ r ∈ rs, validB r = true) : (onB (afterB l rs.reverse) n).isSome = (onB (afterB l rs) n).isSome ∧ (onB (afterB l (rs ++ rs.reverse)) n).isSome = (onB (afterB l rs) n).isSome := by
  rw [after_on n rs l h, after_on n rs.reverse l fun r hr => h r (List.mem_reverse.1 hr), after_on n (rs ++ rs.reverse) l fun r hr => (List.mem_append.1 hr).elim (h r) fun hr => h r (List.mem_reverse.1 hr)]
  rw [List.all_append, List.all_reverse, Bool.and_self]
  exact ⟨rfl, rfl⟩

/-! ### In order -/
def Ord : Int → List Spn → Prop
  | _, [] => True
  | lo, s :: l => lo ≤ s.fro ∧ (s.til ≠ -1 → s.fro < s.til) ∧ (s.til = -1 → l = []) ∧ Ord s.til l
theorem Ord.mono {lo lo' : Int} {l : List Spn} (h : Ord lo l) (hl : lo' ≤ lo) : Ord lo' l := by
  cases l with
  | nil => trivial
  | cons s l => obtain ⟨h1, h2⟩ := h; exact ⟨by omega, h2⟩
theorem ordered_iff : ∀ {l : List Spn}, orderedB l = true ↔ ∃ lo, Ord lo l
  | [] => by simp [orderedB, Ord]
  | [s] => by
    simp only [orderedB, Ord, Bool.and_true, Bool.and_eq_true, Bool.not_eq_true', decide_eq_false_iff_not, implies_true, and_true, true_and]
    exact ⟨fun h => ⟨s.fro, by omega, by omega⟩, fun ⟨lo, h⟩ => by omega⟩
  | s :: t :: l => by
    have ih := @ordered_iff (t :: l)
    rw [orderedB, Bool.and_eq_true, Bool.and_eq_true, ih]
    simp only [Bool.not_eq_true', decide_eq_false_iff_not, decide_eq_true_eq]
    constructor
    · rintro ⟨⟨h1, h2⟩, lo, h3⟩
      refine ⟨s.fro, by omega, by omega, fun h => by omega, ?_⟩
      obtain ⟨h4, h5⟩ := h3
      exact ⟨h2.2, h5⟩
    · rintro ⟨lo, h1, h2, h3, h4⟩
      have hne : s.til ≠ -1 := fun h => by cases h3 h
      exact ⟨⟨by omega, hne, h4.1⟩, _, h4⟩
theorem Ord.keep1 {s : Spn} {a b lo : Int} {f : Fm} {l : List Spn} (hb : -1 ≤ b) (hlo : lo ≤ s.fro) (hs : s.til ≠ -1 → s.fro < s.til) (h1 : s.til = -1 → l = []) (hl : Ord s.til l) : Ord lo (keep s a b f ++ l) := by
  unfold keep
  by_cases hc : b ≠ -1 ∧ (s.til = -1 ∨ b < s.til)
  · simp only [if_pos hc]
    split
    · refine ⟨by simp only; omega, fun _ => by simp only; omega, fun h => by simp only at h; omega, ?_⟩
      by_cases ht : s.til = -1
      · rw [h1 ht]; trivial
      · exact hl.mono (by simp only; omega)
    · by_cases ht : s.til = -1
      · rw [h1 ht]; trivial
      · exact hl.mono (by have := hs ht; omega)
  · simp only [if_neg hc]
    split
    · exact ⟨by simp only; omega, fun _ => by simp only at *; omega, fun h => h1 h, hl⟩
    · by_cases ht : s.til = -1
      · rw [h1 ht]; trivial
      · exact hl.mono (by have := hs ht; omega)
theorem Ord.keep2 {s : Spn} {a b lo : Int} {f g : Fm} {l : List Spn} (hb : 0 ≤ b) (hab : b ≤ a) (hlo : lo ≤ s.fro) (hs : s.til ≠ -1 → s.fro < s.til) (h1 : s.til = -1 → l = []) (hl : Ord s.til l) : Ord lo ((keep s s.fro b f ++ keep s a (-1) g) ++ l) := by
  have hin : ∀ x, x ≤ max s.fro a → (s.til ≠ -1 → x ≤ s.til) → Ord x (keep s a (-1) g ++ l) := by
    intro x hx hx2
    unfold keep
    simp only [if_neg (show ¬ (((-1 : Int) ≠ -1) ∧ (s.til = -1 ∨ (-1 : Int) < s.til)) by omega)]
    split
    · exact ⟨by simp only; omega, fun _ => by simp only at *; omega, fun h => h1 h, hl⟩
    · by_cases ht : s.til = -1
      · rw [h1 ht]; trivial
      · exact hl.mono (hx2 ht)
  rw [List.append_assoc]
  have hm : s.fro ≤ max s.fro a ∧ a ≤ max s.fro a := by omega
  generalize keep s a (-1) g ++ l = rest at hin ⊢
  unfold keep
  by_cases hc : b ≠ -1 ∧ (s.til = -1 ∨ b < s.til)
  · simp only [if_pos hc]
    split
    · exact ⟨by simp only; omega, fun _ => by simp only; omega, fun h => by simp only at h; omega, hin _ (by simp only; omega) (by simp only; omega)⟩
    · exact hin _ (by omega) (by omega)
  · simp only [if_neg hc]
    split
    · refine ⟨by simp only; omega, fun _ => by simp only at *; omega, fun h => ?_, hin _ (by simp only; omega) (by simp only; omega)⟩
      simp only at h; omega
    · exact hin _ (by omega) (by omega)
theorem one_ord {r : Rul} (h : validB r = true) {s : Spn} {lo : Int} {l : List Spn} (hlo : lo ≤ s.fro) (hs : s.til ≠ -1 → s.fro < s.til) (h1 : s.til = -1 → l = []) (hl : Ord s.til l) : Ord lo (one1 r.kind r s ++ l) := by
  obtain ⟨d1, d2, -, d4, -⟩ := valid_days h
  unfold one1
  rw [if_neg (by omega)]
  split
  · by_cases ht : s.til = -1
    · rw [h1 ht]; trivial
    · exact hl.mono (by have := hs ht; omega)
  split
  · exact Ord.keep1 (by omega) hlo hs h1 hl
  split
  · exact Ord.keep1 (by omega) hlo hs h1 hl
  split
  · rename_i h4
    exact Ord.keep2 (by omega) (by have := d4 h4; omega) hlo hs h1 hl
  split
  · exact Ord.keep2 (by omega) (by omega) hlo hs h1 hl
  · exact Ord.keep1 (by omega) hlo hs h1 hl
theorem flat_ord {r : Rul} (h : validB r = true) : ∀ {l : List Spn} {lo : Int}, Ord lo l → Ord lo (l.flatMap (one1 r.kind r))
  | [], _, _ => trivial
  | s :: l, lo, ⟨h1, h2, h3, h4⟩ => by
    rw [List.flatMap_cons]
    refine one_ord h h1 h2 (fun ht => ?_) (flat_ord h h4)
    rw [h3 ht]; rfl
theorem ordered_law {r : Rul} (h : validB r = true) {l : List Spn} (hl : orderedB l = true) : orderedB (applyB l r) = true := by
  obtain ⟨lo, ho⟩ := ordered_iff.1 hl
  unfold applyB
  rw [kind_valid h]
  exact ordered_iff.2 ⟨lo, flat_ord h ho⟩

/-! ### Which ones count -/
theorem back_cons (fn : List UInt8 → Bool) (known : Int) (r : Rul) (l : List Rul) : back fn known (r :: l) = step fn known r (back fn known l) := rfl
theorem out_sub (fn : List UInt8 → Bool) (known : Int) : ∀ l : List Rul, (back fn known l).out.Sublist l
  | [] => .slnil
  | r :: l => by
    rw [back_cons]
    unfold step
    split
    · exact (out_sub fn known l).cons r
    · exact (out_sub fn known l).cons_cons r
theorem counting_sub (l : List Rul) (known : Int) : (counting l known).Sublist l := out_sub _ _ _
theorem out_known (fn : List UInt8 → Bool) (known : Int) : ∀ (l : List Rul), ∀ r ∈ (back fn known l).out, r.known ≤ known
  | [], r, h => nomatch h
  | x :: l, r, h => by
    rw [back_cons] at h
    unfold step at h
    split at h
    · exact out_known fn known l r h
    · rename_i hx
      rcases List.mem_cons.1 h with rfl | h
      · omega
      · exact out_known fn known l r h
theorem lifted_iff (fn : List UInt8 → Bool) (known : Int) (s : List UInt8) : ∀ l : List Rul, s ∈ (back fn known l).lifted ↔ ∃ r ∈ (back fn known l).out, r.kind = 6 ∧ r.lifts = s
  | [] => by simp [back]
  | x :: l => by
    rw [back_cons]
    have ih := lifted_iff fn known s l
    unfold step
    split
    · exact ih
    · simp only [List.mem_cons, exists_eq_or_imp]
      by_cases h6 : x.kind = 6
      · rw [if_pos h6, List.mem_cons, ih]
        constructor
        · rintro (rfl | h)
          · exact .inl ⟨h6, rfl⟩
          · exact .inr h
        · rintro (⟨-, rfl⟩ | h)
          · exact .inl rfl
          · exact .inr h
      · rw [if_neg h6, ih]
        exact ⟨.inr, fun h => h.resolve_left fun h => h6 h.1⟩
theorem back_congr {fn fn' : List UInt8 → Bool} (known : Int) (h : ∀ s, fn s = fn' s) (l : List Rul) : back fn known l = back fn' known l := by
  have : fn = fn' := funext h
  rw [this]
/-- Rulings that are not known do not matter. -/
theorem back_filter (fn : List UInt8 → Bool) (known : Int) (p : Rul → Bool) (hp : ∀ r, r.known ≤ known → p r = true) : ∀ l : List Rul, back fn known (l.filter p) = back fn known l
  | [] => rfl
  | r :: l => by
    by_cases h : p r = true
    · rw [List.filter_cons_of_pos h, back_cons, back_cons, back_filter fn known p hp l]
    · rw [List.filter_cons_of_neg h, back_cons, back_filter fn known p hp l]
      have : known < r.known := by
        rcases Int.lt_or_le known r.known with h' | h'
        · exact h'
        · exact absurd (hp r h') h
      unfold step
      rw [if_pos (.inl this)]
theorem finalB_filter (l : List Rul) (known : Int) (p : Rul → Bool) (hp : ∀ r, r.known ≤ known → p r = true) (s : List UInt8) : finalB (l.filter p) known s = finalB l known s := by
  unfold finalB
  rw [Bool.eq_iff_iff, List.any_eq_true, List.any_eq_true]
  constructor
  · rintro ⟨r, h1, h2⟩; exact ⟨r, (List.mem_filter.1 h1).1, h2⟩
  · rintro ⟨r, h1, h2⟩
    simp only [Bool.and_eq_true, decide_eq_true_eq] at h2
    exact ⟨r, List.mem_filter.2 ⟨h1, hp r h2.2.2⟩, by simp [h2]⟩
theorem counting_filter (l : List Rul) (known : Int) (p : Rul → Bool) (hp : ∀ r, r.known ≤ known → p r = true) : counting (l.filter p) known = counting l known := by
  unfold counting
  rw [back_congr known (finalB_filter l known p hp), back_filter _ known p hp]
theorem countB_ok {l : List Rul} {known : Int} : (countB l known).err = 0 ↔ dayB known = true ∧ l.length ≤ 200 ∧ (∀ r ∈ l, validB r = true) ∧ (l.map (·.id)).Nodup := by
  unfold countB idsNodup
  rw [← List.all_eq_true]
  constructor
  · intro h
    split at h
    · cases h
    split at h
    · cases h
    split at h
    · cases h
    split at h
    · cases h
    rename_i h1 h2 h3 h4
    exact ⟨by simpa using h1, by omega, by simpa using h3, by simpa using h4⟩
  · rintro ⟨h1, h2, h3, h4⟩
    rw [if_neg (by simp [h1]), if_neg (by omega), if_neg (by simp [h3]), if_neg (by simp [h4])]
theorem countB_out {l : List Rul} {known : Int} (h : (countB l known).err = 0) : (countB l known).out = counting l known := by
  obtain ⟨h1, h2, h3, h4⟩ := countB_ok.1 h
  unfold countB idsNodup
  rw [← List.all_eq_true] at h3
  rw [if_neg (by simp [h1]), if_neg (by omega), if_neg (by simp [h3]), if_neg (by simp [h4])]
theorem known_law {l : List Rul} {a b : Int} (hab : a ≤ b) (h : (countB l a).err = 0) : (countB (l.filter fun r => decide (r.known ≤ b)) a).err = 0 ∧ (countB (l.filter fun r => decide (r.known ≤ b)) a).out = (countB l a).out := by
  obtain ⟨h1, h2, h3, h4⟩ := countB_ok.1 h
  have hok : (countB (l.filter fun r => decide (r.known ≤ b)) a).err = 0 := countB_ok.2 ⟨h1, Nat.le_trans (List.length_filter_le _ _) h2, fun r hr => h3 r (List.mem_filter.1 hr).1, (List.filter_sublist.map _).nodup h4⟩
  refine ⟨hok, ?_⟩
  rw [countB_out hok, countB_out h, counting_filter]
  intro r hr
  exact decide_eq_true (by omega)

/-- A further ruling at the end. -/
theorem back_snoc (fn : List UInt8 → Bool) (known : Int) (l : List Rul) (r : Rul) (hr : r.kind ≠ 6) (hid : True) : (back fn known (l ++ [r])).out = (back fn known l).out ++ (if known < r.known then [] else [r]) ∧ (back fn known (l ++ [r])).lifted = (back fn known l).lifted := by
  have h0 : back fn known [r] = ⟨[], if known < r.known then [] else [r]⟩ := by
    show step fn known r ⟨[], []⟩ = _
    unfold step
    by_cases h : known < r.known
    · rw [if_pos (.inl h), if_pos h]
    · rw [if_neg, if_neg h, if_neg hr]
      rintro (h' | h' | h')
      · exact h h'
      · exact hr h'.1
      · cases h'
  induction l with
  | nil => rw [List.nil_append, h0]; exact ⟨rfl, rfl⟩
  | cons x l ih =>
    rw [List.cons_append, back_cons, back_cons]
    unfold step
    rw [ih.2]
    split
    · exact ih
    · exact ⟨by rw [ih.1]; rfl, rfl⟩
theorem snoc_law {l : List Rul} {a : Int} {r : Rul} (h : (countB l a).err = 0) (h' : (countB (l ++ [r]) a).err = 0) (hk : r.kind ≠ 6) (hf : r.fin = false) : ∃ e, (countB (l ++ [r]) a).out = (countB l a).out ++ e ∧ e.length ≤ 1 := by
  rw [countB_out h, countB_out h']
  unfold counting
  have hfn : ∀ s, finalB (l ++ [r]) a s = finalB l a s := fun s => by
    unfold finalB
    rw [List.any_append]
    simp [hf]
  rw [back_congr a hfn, (back_snoc _ a l r hk trivial).1]
  refine ⟨_, rfl, ?_⟩
  split <;> simp
end Go.Rul
