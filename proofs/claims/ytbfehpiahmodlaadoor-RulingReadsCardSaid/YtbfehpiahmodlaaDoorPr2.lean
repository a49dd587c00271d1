/-
  Rulings: further laws, in plain Lean.
-/
import Derived.Test.YtbfehpiahmodlaaDoorLX
set_option linter.unusedVariables false
set_option linter.unusedSimpArgs false
set_option linter.unnecessarySimpa false
set_option maxRecDepth 10000
namespace Go.Rul
open Go.Lexs Go.Fin Go.Fo

/-! ### Which ones count, one by one -/
def counted (fn : List UInt8 → Bool) (known : Int) : List Rul → Bool
  | [] => false
  | r :: l => decide (¬ (known < r.known ∨ (r.kind = 6 ∧ fn r.lifts = true) ∨ r.id ∈ (back fn known l).lifted))
theorem counted_cons (fn : List UInt8 → Bool) (known : Int) (r : Rul) (l : List Rul) : counted fn known (r :: l) = decide (¬ (known < r.known ∨ (r.kind = 6 ∧ fn r.lifts = true) ∨ r.id ∈ (back fn known l).lifted)) := rfl
theorem step_no {fn : List UInt8 → Bool} {known : Int} {r : Rul} {g : Bk} (h : known < r.known ∨ (r.kind = 6 ∧ fn r.lifts = true) ∨ r.id ∈ g.lifted) : step fn known r g = g := by unfold step; rw [if_pos h]
theorem step_yes {fn : List UInt8 → Bool} {known : Int} {r : Rul} {g : Bk} (h : ¬ (known < r.known ∨ (r.kind = 6 ∧ fn r.lifts = true) ∨ r.id ∈ g.lifted)) : step fn known r g = ⟨if r.kind = 6 then r.lifts :: g.lifted else g.lifted, r :: g.out⟩ := by unfold step; rw [if_neg h]
theorem back_out (fn : List UInt8 → Bool) (known : Int) (r : Rul) (l : List Rul) : (back fn known (r :: l)).out = if counted fn known (r :: l) then r :: (back fn known l).out else (back fn known l).out := by
  rw [back_cons]
  unfold step counted
  by_cases h : known < r.known ∨ (r.kind = 6 ∧ fn r.lifts = true) ∨ r.id ∈ (back fn known l).lifted
  · rw [if_pos h, if_neg (fun hc => (of_decide_eq_true hc : ¬ _) h)]
  · rw [if_neg h, if_pos (decide_eq_true h)]
theorem back_lifted (fn : List UInt8 → Bool) (known : Int) (r : Rul) (l : List Rul) (s : List UInt8) : s ∈ (back fn known (r :: l)).lifted ↔ (counted fn known (r :: l) = true ∧ r.kind = 6 ∧ r.lifts = s) ∨ s ∈ (back fn known l).lifted := by
  rw [back_cons]
  unfold step counted
  by_cases h : known < r.known ∨ (r.kind = 6 ∧ fn r.lifts = true) ∨ r.id ∈ (back fn known l).lifted
  · rw [if_pos h]; simp [h]
  · rw [if_neg h]
    simp only [h, not_false_eq_true, decide_true, true_and]
    by_cases h6 : r.kind = 6
    · rw [if_pos h6, List.mem_cons]; simp [h6, eq_comm]
    · rw [if_neg h6]; simp [h6]
/-- The lifts, by their places. -/
theorem lifted_at (fn : List UInt8 → Bool) (known : Int) (s : List UInt8) : ∀ l : List Rul, s ∈ (back fn known l).lifted ↔ ∃ (j : Nat) (hj : j < l.length), l[j].kind = 6 ∧ l[j].lifts = s ∧ counted fn known (l.drop j) = true
  | [] => by simp [back]
  | r :: l => by
    rw [back_lifted, lifted_at fn known s l]
    constructor
    · rintro (⟨h1, h2, h3⟩ | ⟨j, hj, h⟩)
      · exact ⟨0, by simp, h2, h3, h1⟩
      · exact ⟨j + 1, by simpa using hj, h⟩
    · rintro ⟨j, hj, h1, h2, h3⟩
      cases j with
      | zero => exact .inl ⟨h3, h1, h2⟩
      | succ j => exact .inr ⟨j, by simpa using hj, h1, h2, h3⟩
theorem drop_at {l : List Rul} {i : Nat} (hi : i < l.length) : l.drop i = l[i] :: l.drop (i + 1) := List.drop_eq_getElem_cons hi
/-- One ruling, by what comes after it. -/
theorem counted_at {fn : List UInt8 → Bool} {known : Int} {l : List Rul} {i : Nat} (hi : i < l.length) :
    counted fn known (l.drop i) = decide (¬ (known < l[i].known ∨ (l[i].kind = 6 ∧ fn l[i].lifts = true) ∨ ∃ (j : Nat) (hj : j < l.length), i < j ∧ l[j].kind = 6 ∧ l[j].lifts = l[i].id ∧ counted fn known (l.drop j) = true)) := by
  rw [drop_at hi, counted_cons, decide_eq_decide, lifted_at]
  have : (∃ (j : Nat) (hj : j < (l.drop (i + 1)).length), (l.drop (i + 1))[j].kind = 6 ∧ (l.drop (i + 1))[j].lifts = l[i].id ∧ counted fn known ((l.drop (i + 1)).drop j) = true) ↔ ∃ (j : Nat) (hj : j < l.length), i < j ∧ l[j].kind = 6 ∧ l[j].lifts = l[i].id ∧ counted fn known (l.drop j) = true := by
    constructor
    · rintro ⟨j, hj, h⟩
      rw [List.length_drop] at hj
      refine ⟨i + 1 + j, by omega, by omega, ?_⟩
      simpa [List.getElem_drop, List.drop_drop] using h
    · rintro ⟨j, hj, hij, h⟩
      obtain ⟨k, rfl⟩ := Nat.exists_eq_add_of_lt hij
      have e : i + k + 1 = i + 1 + k := by omega
      refine ⟨k, by rw [List.length_drop]; omega, ?_⟩
      simp only [List.getElem_drop, List.drop_drop]
      simp only [e] at h
      exact h
  simp only [this]
theorem final_counts {l : List Rul} {known : Int} {i : Nat} (hi : i < l.length) (hf : l[i].fin = true) (hk : ¬ known < l[i].known) : ∀ (j : Nat) (hj : j < l.length), i < j → l[j].kind = 6 → l[j].lifts = l[i].id → counted (finalB l known) known (l.drop j) = false := by
  intro j hj _ h6 hl
  rw [counted_at hj, decide_eq_false]
  refine fun h => h (.inr (.inl ⟨h6, ?_⟩))
  unfold finalB
  rw [List.any_eq_true]
  exact ⟨l[i], List.getElem_mem hi, by rw [decide_eq_true hl.symm, hf, decide_eq_true (by omega)]; rfl⟩
/-- What the reference looks at. -/
theorem counted_ref {l : List Rul} {known : Int} {i : Nat} (hi : i < l.length) :
    counted (finalB l known) known (l.drop i) = decide (¬ known < l[i].known ∧ ¬ (l[i].kind = 6 ∧ finalB l known l[i].lifts = true) ∧ (l[i].fin = true ∨ ∀ (j : Nat) (hj : j < l.length), i < j → l[j].kind = 6 → l[j].lifts = l[i].id → counted (finalB l known) known (l.drop j) = false)) := by
  rw [counted_at hi, decide_eq_decide]
  constructor
  · intro h
    refine ⟨fun h' => h (.inl h'), fun h' => h (.inr (.inl h')), .inr fun j hj h1 h2 h3 => ?_⟩
    cases hc : counted (finalB l known) known (l.drop j)
    · rfl
    · exact absurd (.inr (.inr ⟨j, hj, h1, h2, h3, hc⟩)) h
  · rintro ⟨h1, h2, h3⟩
    rintro (h | h | ⟨j, hj, h4, h5, h6, h7⟩)
    · exact h1 h
    · exact h2 h
    · rcases h3 with h3 | h3
      · rw [final_counts hi h3 h1 j hj h4 h5 h6] at h7; cases h7
      · rw [h3 j hj h4 h5 h6] at h7; cases h7
def outs (fn : List UInt8 → Bool) (known : Int) (l : List Rul) : Nat → List Rul
  | 0 => []
  | i + 1 => outs fn known l i ++ (if h : i < l.length then (if counted fn known (l.drop i) then [l[i]] else []) else [])
theorem outs_back {fn : List UInt8 → Bool} {known : Int} {l : List Rul} : ∀ i, i ≤ l.length → outs fn known l i ++ (back fn known (l.drop i)).out = (back fn known l).out
  | 0, _ => by simp [outs]
  | i + 1, h => by
    have hi : i < l.length := by omega
    have ih := outs_back (fn := fn) (known := known) (l := l) i (by omega)
    have h1 := back_out fn known l[i] (l.drop (i + 1))
    rw [← drop_at hi] at h1
    rw [← ih, h1]
    show (outs fn known l i ++ _) ++ _ = _
    rw [dif_pos hi, List.append_assoc]
    congr 1
    split <;> simp
theorem outs_all {l : List Rul} {known : Int} : outs (finalB l known) known l l.length = counting l known := by
  have := outs_back (fn := finalB l known) (known := known) (l := l) l.length (Nat.le_refl _)
  rw [List.drop_length] at this
  simpa [back, counting] using this

/-! ### In the answer -/
theorem out_counted {fn : List UInt8 → Bool} {known : Int} : ∀ {l : List Rul}, (l.map (·.id)).Nodup → ∀ {i : Nat} (hi : i < l.length), l[i] ∈ (back fn known l).out ↔ counted fn known (l.drop i) = true
  | [], _, i, hi => by simp at hi
  | r :: l, hn, i, hi => by
    rw [List.map_cons, List.nodup_cons] at hn
    obtain ⟨hr, hn⟩ := hn
    rw [back_out]
    cases i with
    | zero =>
      simp only [List.getElem_cons_zero, List.drop_zero]
      split
      · rename_i h; simp [h]
      · rename_i h
        have : r ∉ (back fn known l).out := fun hm => hr (List.mem_map.2 ⟨r, (out_sub fn known l).subset hm, rfl⟩)
        simp [this, h]
    | succ i =>
      simp only [List.length_cons] at hi
      have hi' : i < l.length := by omega
      simp only [List.getElem_cons_succ, List.drop_succ_cons]
      rw [← out_counted hn hi']
      have hne : l[i] ≠ r := fun h => hr (List.mem_map.2 ⟨l[i], List.getElem_mem hi', by rw [h]⟩)
      split
      · simp [hne]
      · rfl
/-- Is a ruling with this Id among those? -/
def inB (a : List Rul) (s : List UInt8) : Bool := a.any fun r => decide (r.id = s)
theorem inB_mem {a l : List Rul} (hs : a.Sublist l) (hn : (l.map (·.id)).Nodup) {r : Rul} (hr : r ∈ l) : inB a r.id = true ↔ r ∈ a := by
  unfold inB
  rw [List.any_eq_true]
  constructor
  · rintro ⟨x, hx, he⟩
    have he : x.id = r.id := of_decide_eq_true he
    obtain ⟨i, hi, rfl⟩ := List.mem_iff_getElem.1 (hs.subset hx)
    obtain ⟨j, hj, rfl⟩ := List.mem_iff_getElem.1 hr
    have : i = j := by
      have h1 : (l.map (·.id))[i]? = (l.map (·.id))[j]? := by simp [hi, hj, he]
      exact (List.getElem?_inj (by simpa using hi) hn).1 h1
    subst this
    exact hx
  · intro h; exact ⟨r, h, decide_eq_true rfl⟩
theorem inB_counting {l : List Rul} {known : Int} (hn : (l.map (·.id)).Nodup) {i : Nat} (hi : i < l.length) : inB (counting l known) l[i].id = counted (finalB l known) known (l.drop i) := by
  rw [Bool.eq_iff_iff, inB_mem (counting_sub l known) hn (List.getElem_mem hi)]
  exact out_counted hn hi
theorem finalB_at {l : List Rul} {known : Int} (hn : (l.map (·.id)).Nodup) {i : Nat} (hi : i < l.length) : finalB l known l[i].id = (l[i].fin && decide (l[i].known ≤ known)) := by
  unfold finalB
  rw [Bool.eq_iff_iff, List.any_eq_true]
  constructor
  · rintro ⟨x, hx, he⟩
    simp only [Bool.and_eq_true, decide_eq_true_eq] at he ⊢
    obtain ⟨j, hj, rfl⟩ := List.mem_iff_getElem.1 hx
    have : j = i := by
      have h1 : (l.map (·.id))[j]? = (l.map (·.id))[i]? := by simp [hi, hj, he.1]
      exact (List.getElem?_inj (by simpa using hj) hn).1 h1
    subst this
    exact he.2
  · intro h
    exact ⟨l[i], List.getElem_mem hi, by rw [decide_eq_true rfl, h]; rfl⟩
def idleB (l : List Rul) (known : Int) (r : Rul) : Bool := decide (r.kind = 6) && finalB l known r.lifts
theorem final_law {l : List Rul} {known : Int} (hn : (l.map (·.id)).Nodup) {i : Nat} (hi : i < l.length) :
    (l[i].fin = true → inB (counting l known) l[i].id = (decide (l[i].known ≤ known) && !idleB l known l[i])) ∧ (idleB l known l[i] = true → inB (counting l known) l[i].id = false) ∧
    ((∀ r ∈ l, r.kind ≠ 6) → inB (counting l known) l[i].id = decide (l[i].known ≤ known)) ∧
    (∀ (k : Nat) (hk : k < i), l[i].kind = 6 → inB (counting l known) l[i].id = true → l[k].id = l[i].lifts → inB (counting l known) l[k].id = false) := by
  have hc := inB_counting (known := known) hn hi
  refine ⟨fun hf => ?_, fun hid => ?_, fun h6 => ?_, fun k hk h6 hin he => ?_⟩
  · rw [hc, counted_ref hi]
    unfold idleB
    rw [Bool.eq_iff_iff]
    simp only [decide_eq_true_eq, Bool.and_eq_true, Bool.not_eq_true', Bool.and_eq_false_iff, decide_eq_false_iff_not]
    constructor
    · rintro ⟨h1, h2, -⟩
      refine ⟨by omega, ?_⟩
      by_cases h : l[i].kind = 6
      · right
        cases hx : finalB l known l[i].lifts
        · rfl
        · exact absurd ⟨h, hx⟩ h2
      · exact .inl h
    · rintro ⟨h1, h2⟩
      refine ⟨by omega, ?_, .inl hf⟩
      rintro ⟨h3, h4⟩
      rcases h2 with h2 | h2
      · exact h2 h3
      · rw [h2] at h4; cases h4
  · rw [hc, counted_ref hi, decide_eq_false]
    rintro ⟨-, h2, -⟩
    unfold idleB at hid
    simp only [Bool.and_eq_true, decide_eq_true_eq] at hid
    exact h2 hid
  · rw [hc, counted_ref hi, decide_eq_decide]
    constructor
    · rintro ⟨h1, -, -⟩; omega
    · intro h1
      exact ⟨by omega, fun h => h6 _ (List.getElem_mem hi) h.1, .inr fun j hj _ h => absurd h (h6 _ (List.getElem_mem hj))⟩
  · have hkl : k < l.length := by omega
    rw [hc] at hin
    rw [inB_counting hn hkl, counted_at hkl, decide_eq_false]
    exact fun h => h (.inr (.inr ⟨i, hi, hk, h6, he.symm, hin⟩))

/-! ### Lifts at the end -/
theorem fold_skip (fn : List UInt8 → Bool) (known : Int) (S : List (List UInt8)) (o : List Rul) : ∀ l : List Rul,
    (l.foldr (step fn known) ⟨S, o⟩).out = (back fn known (l.filter fun r => !S.contains r.id)).out ++ o ∧ ∀ s, s ∈ (l.foldr (step fn known) ⟨S, o⟩).lifted ↔ s ∈ (back fn known (l.filter fun r => !S.contains r.id)).lifted ∨ s ∈ S
  | [] => by simp [back]
  | r :: l => by
    obtain ⟨h1, h2⟩ := fold_skip fn known S o l
    rw [List.foldr_cons]
    by_cases hr : r.id ∈ S
    · rw [List.filter_cons_of_neg (by simpa using hr)]
      rw [step_no (.inr (.inr ((h2 _).2 (.inr hr))))]
      exact ⟨h1, h2⟩
    · rw [List.filter_cons_of_pos (by simpa using hr), back_cons]
      by_cases h : known < r.known ∨ (r.kind = 6 ∧ fn r.lifts = true) ∨ r.id ∈ (back fn known (l.filter fun r => !S.contains r.id)).lifted
      · rw [step_no h, step_no (by rcases h with h | h | h; exact .inl h; exact .inr (.inl h); exact .inr (.inr ((h2 _).2 (.inl h))))]
        exact ⟨h1, h2⟩
      · rw [step_yes h, step_yes (by
          rintro (h' | h' | h')
          · exact h (.inl h')
          · exact h (.inr (.inl h'))
          · exact ((h2 _).1 h').elim (fun h' => h (.inr (.inr h'))) hr)]
        refine ⟨by simp only [h1]; rfl, fun s => ?_⟩
        by_cases h6 : r.kind = 6
        · simp only [h6, if_true, List.mem_cons, h2, or_assoc]
        · simp only [h6, if_false, h2]
theorem back_filter' (fn : List UInt8 → Bool) (known : Int) (p : Rul → Bool) : ∀ l : List Rul, (∀ r ∈ l, r.known ≤ known → p r = true) → back fn known (l.filter p) = back fn known l
  | [], _ => rfl
  | r :: l, hp => by
    have ih := back_filter' fn known p l fun x hx => hp x (List.mem_cons_of_mem _ hx)
    by_cases h : p r = true
    · rw [List.filter_cons_of_pos h, back_cons, back_cons, ih]
    · rw [List.filter_cons_of_neg h, back_cons, ih]
      have : known < r.known := by
        rcases Int.lt_or_le known r.known with h' | h'
        · exact h'
        · exact absurd (hp r List.mem_cons_self h') h
      unfold step
      rw [if_pos (.inl this)]
def liftR (id other : List UInt8) : Rul := ⟨id, [112], 6, 0, 0, .node 0 [] 0 0 [], 0, false, other⟩
theorem finalB_snoc (l : List Rul) (known : Int) (a b : List UInt8) (s : List UInt8) : finalB (l ++ [liftR a b]) known s = finalB l known s := by
  unfold finalB
  rw [List.any_append]
  simp [liftR]
theorem finalB_snoc2 (l : List Rul) (known : Int) (a b c d : List UInt8) (s : List UInt8) : finalB (l ++ [liftR a b] ++ [liftR c d]) known s = finalB l known s := by
  rw [finalB_snoc, finalB_snoc]
theorem skip_one {l : List Rul} (hn : (l.map (·.id)).Nodup) {i : Nat} (hi : i < l.length) : (l.filter fun r => ![l[i].id].contains r.id) = l.take i ++ l.drop (i + 1) := by
  have h0 : ∀ m : List Rul, l[i].id ∉ m.map (·.id) → (m.filter fun r => ![l[i].id].contains r.id) = m := fun m hm => by
    rw [List.filter_eq_self]
    intro r hr
    have : r.id ≠ l[i].id := fun h => hm (List.mem_map.2 ⟨r, hr, h⟩)
    simp [this]
  conv => lhs; arg 2; rw [← List.take_append_drop i l, drop_at hi]
  have hs : l = l.take i ++ l[i] :: l.drop (i + 1) := by rw [← drop_at hi, List.take_append_drop]
  have hn' := hn
  rw [hs, List.map_append, List.map_cons, List.nodup_append, List.nodup_cons] at hn'
  obtain ⟨-, ⟨h2, -⟩, h3⟩ := hn'
  rw [List.filter_append, List.filter_cons_of_neg (by simp), h0 _ (fun h => h3 _ h _ List.mem_cons_self rfl), h0 _ h2]
theorem skip_none {l : List Rul} {s : List UInt8} (h : s ∉ l.map (·.id)) : (l.filter fun r => ![s].contains r.id) = l := by
  rw [List.filter_eq_self]
  intro r hr
  have : r.id ≠ s := fun h' => h (List.mem_map.2 ⟨r, hr, h'⟩)
  simp [this]
/-- What counts with a new lift at the end. -/
theorem lift_out {l : List Rul} {known : Int} {s : List UInt8} (h0 : 0 ≤ known) (a : List UInt8) (hf : finalB l known s = false) : counting (l ++ [liftR a s]) known = (back (finalB l known) known (l.filter fun r => ![s].contains r.id)).out ++ [liftR a s] := by
  unfold counting
  rw [back_congr known (fun x => finalB_snoc l known a s x)]
  have h1 : back (finalB l known) known (l ++ [liftR a s]) = l.foldr (step (finalB l known) known) ⟨[s], [liftR a s]⟩ := by
    unfold back
    rw [List.foldr_append]
    congr 1
    show step (finalB l known) known (liftR a s) ⟨[], []⟩ = _
    unfold step
    rw [if_neg]
    · rfl
    · rintro (h | h | h)
      · have : (liftR a s).known = 0 := rfl
        omega
      · have : finalB l known s = true := h.2
        rw [hf] at this; cases this
      · cases h
  rw [h1, (fold_skip _ _ _ _ l).1]
theorem lift_idle {l : List Rul} {known : Int} {s : List UInt8} (a : List UInt8) (hf : finalB l known s = true) : counting (l ++ [liftR a s]) known = counting l known := by
  unfold counting
  rw [back_congr known (fun x => finalB_snoc l known a s x)]
  have h1 : back (finalB l known) known (l ++ [liftR a s]) = back (finalB l known) known l := by
    unfold back
    rw [List.foldr_append]
    congr 1
    show step (finalB l known) known (liftR a s) ⟨[], []⟩ = _
    unfold step
    rw [if_pos (.inr (.inl ⟨rfl, hf⟩))]
  rw [h1]
def nNew : List UInt8 := [110, 101, 119, 108, 105, 102, 116]
def nNewer : List UInt8 := [110, 101, 119, 101, 114, 108, 105, 102, 116]
theorem lift_valid {a s : List UInt8} (ha : Nm a = true) (hs : Nm s = true) : validB (liftR a s) = true := by
  have h1 : Nm [112] = true := by decide
  unfold validB liftR
  simp only [ha, h1, hs, if_true, Bool.and_true, Bool.true_and]
  decide
theorem valid_name {r : Rul} (h : validB r = true) : Nm r.id = true := by
  unfold validB at h
  simp only [Bool.and_eq_true] at h
  exact h.1.1.1.1.1
/-- What can go wrong with new lifts. -/
theorem lift_err {l m : List Rul} {known : Int} (h : (countB l known).err = 0) (hl : l.length + m.length ≤ 200) (hm : ∀ r ∈ m, validB r = true) : (countB (l ++ m) known).err = 0 ∨ (countB (l ++ m) known).err = 9 := by
  obtain ⟨h1, h2, h3, h4⟩ := countB_ok.1 h
  unfold countB
  rw [if_neg (by simp [h1]), if_neg (by rw [List.length_append]; omega)]
  have : (l ++ m).all validB = true := by
    rw [List.all_eq_true]
    intro r hr
    exact (List.mem_append.1 hr).elim (h3 r) (hm r)
  rw [if_neg (by simp [this])]
  split
  · right; rfl
  · left; rfl
theorem count_sub {l m : List Rul} {known : Int} (h : (countB l known).err = 0) (hs : m.Sublist l) : (countB m known).err = 0 := by
  obtain ⟨h1, h2, h3, h4⟩ := countB_ok.1 h
  exact countB_ok.2 ⟨h1, Nat.le_trans hs.length_le h2, fun r hr => h3 r (hs.subset hr), (hs.map _).nodup h4⟩
theorem without_sub (l : List Rul) (i : Nat) : (l.take i ++ l.drop (i + 1)).Sublist l := by
  conv => rhs; rw [← List.take_append_drop i l]
  refine List.Sublist.append_left ?_ _
  rw [← List.drop_drop]
  exact List.drop_sublist _ _
theorem new_fresh {l : List Rul} {known : Int} {x : Rul} (h : (countB (l ++ [x]) known).err = 0) : x.id ∉ l.map (·.id) := by
  obtain ⟨-, -, -, h4⟩ := countB_ok.1 h
  rw [List.map_append, List.nodup_append] at h4
  intro hm
  exact h4.2.2 _ hm _ (by simp) rfl
theorem lifts_law {l : List Rul} {known : Int} {i : Nat} (hi : i < l.length) (hl : l.length ≤ 12) (h : (countB l known).err = 0)
    (hf : (countB (l ++ [liftR nNew l[i].id]) known).err = 0) (hg : (countB (l ++ [liftR nNew l[i].id] ++ [liftR nNewer nNew]) known).err = 0) :
    (known < l[i].known → (countB (l ++ [liftR nNew l[i].id]) known).out = (countB l known).out ++ [liftR nNew l[i].id]) ∧
    (¬ known < l[i].known → l[i].fin = true → (countB (l ++ [liftR nNew l[i].id]) known).out = (countB l known).out) ∧
    (¬ known < l[i].known → l[i].fin = false → (countB (l ++ [liftR nNew l[i].id]) known).out = (countB (l.take i ++ l.drop (i + 1)) known).out ++ [liftR nNew l[i].id] ∧
      (countB (l ++ [liftR nNew l[i].id] ++ [liftR nNewer nNew]) known).out = (countB l known).out ++ [liftR nNewer nNew]) := by
  obtain ⟨h1, h2, h3, h4⟩ := countB_ok.1 h
  have hk0 := (dayB_iff.1 h1).1
  have hd := count_sub h (without_sub l i)
  have hfa := finalB_at (known := known) h4 hi
  rw [countB_out hf, countB_out h, countB_out hg, countB_out hd]
  refine ⟨fun hk => ?_, fun hk hfin => ?_, fun hk hfin => ⟨?_, ?_⟩⟩
  · rw [lift_out hk0 nNew (by rw [hfa, decide_eq_false (by omega), Bool.and_false])]
    congr 1
    unfold counting
    rw [back_filter']
    intro r hr hkr
    have : r.id ≠ l[i].id := fun he => by
      obtain ⟨j, hj, rfl⟩ := List.mem_iff_getElem.1 hr
      have : j = i := by
        have h1 : (l.map (·.id))[j]? = (l.map (·.id))[i]? := by simp [hi, hj, he]
        exact (List.getElem?_inj (by simpa using hj) h4).1 h1
      subst this
      omega
    simp [this]
  · exact lift_idle nNew (by rw [hfa, hfin, decide_eq_true (by omega)]; rfl)
  · rw [lift_out hk0 nNew (by rw [hfa, hfin]; rfl), skip_one h4 hi]
    congr 1
    unfold counting
    rw [back_congr known]
    intro s
    have h5 := skip_one h4 hi
    unfold finalB
    rw [Bool.eq_iff_iff, List.any_eq_true, List.any_eq_true]
    constructor
    · rintro ⟨r, hr, he⟩
      refine ⟨r, ?_, he⟩
      rw [← h5]
      refine List.mem_filter.2 ⟨hr, ?_⟩
      simp only [Bool.and_eq_true, decide_eq_true_eq] at he
      have : r.id ≠ l[i].id := fun hid => by
        obtain ⟨j, hj, rfl⟩ := List.mem_iff_getElem.1 hr
        have : j = i := by
          have h1 : (l.map (·.id))[j]? = (l.map (·.id))[i]? := by simp [hi, hj, hid]
          exact (List.getElem?_inj (by simpa using hj) h4).1 h1
        subst this
        rw [hfin] at he
        cases he.2.1
      simp [this]
    · rintro ⟨r, hr, he⟩
      exact ⟨r, (without_sub l i).subset hr, he⟩
  · have hnf : finalB (l ++ [liftR nNew l[i].id]) known nNew = false := by
      rw [finalB_snoc]
      have hfr := new_fresh hf
      unfold finalB
      rw [List.any_eq_false]
      intro r hr
      have : r.id ≠ nNew := fun he => hfr (List.mem_map.2 ⟨r, hr, he⟩)
      simp [this]
    rw [lift_out hk0 nNewer hnf]
    congr 1
    have hfr := new_fresh hf
    have hsk : (l.filter fun r => ![nNew].contains r.id) = l := skip_none hfr
    rw [List.filter_append, hsk]
    have : ([liftR nNew l[i].id].filter fun r => ![nNew].contains r.id) = [] := by
      rw [List.filter_cons_of_neg (by simp [liftR])]; rfl
    rw [this, List.append_nil]
    unfold counting
    rw [back_congr known (fun x => finalB_snoc l known nNew l[i].id x)]
end Go.Rul
