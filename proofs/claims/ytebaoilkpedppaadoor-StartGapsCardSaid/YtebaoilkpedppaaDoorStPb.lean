/-
  Conditions of commencement: plain laws about holding.
-/
import Derived.Test.YtebaoilkpedppaaDoorStSpec
import Derived.Test.YtebaoilkpedppaaDoorStB
set_option linter.unusedVariables false
set_option linter.unusedSimpArgs false
set_option linter.unnecessarySimpa false
set_option maxRecDepth 10000
namespace Go.Sta
theorem all_same {α : Type} {p q : α → Bool} {l : List α} (h : ∀ a ∈ l, p a = q a) : l.all p = l.all q := by
  induction l with
  | nil => rfl
  | cons a l ih => rw [List.all_cons, List.all_cons, h a List.mem_cons_self, ih fun b hb => h b (List.mem_cons_of_mem _ hb)]
theorem any_same {α : Type} {p q : α → Bool} {l : List α} (h : ∀ a ∈ l, p a = q a) : l.any p = l.any q := by
  induction l with
  | nil => rfl
  | cons a l ih => rw [List.any_cons, List.any_cons, h a List.mem_cons_self, ih fun b hb => h b (List.mem_cons_of_mem _ hb)]
/-! ### Structure -/
theorem okL_mem {l : List Sn} (h : okL l = true) : ∀ k ∈ l, okB k = true := by
  rw [okL_all] at h
  exact List.all_eq_true.1 h
theorem valid_iff (s : Sn) : validB s = true ↔ cnt s ≤ 200 ∧ dep s ≤ 20 ∧ okB s = true := by
  unfold validB
  rw [decide_eq_true_eq]
  unfold Valid Proper
  constructor
  · rintro ⟨h1, h2, h3⟩; exact ⟨by omega, h2, h3⟩
  · rintro ⟨h1, h2, h3⟩; exact ⟨by omega, h2, h3⟩
theorem valid_kid {s k : Sn} (h : validB s = true) (hk : k ∈ s.kids) : validB k = true := by
  obtain ⟨h1, h2, h3⟩ := (valid_iff s).1 h
  rw [cnt_eq] at h1
  rw [dep_eq] at h2
  rw [okB_eq, Bool.and_eq_true] at h3
  have := cnt_le_of_mem hk
  have := dep_le_of_mem hk
  exact (valid_iff k).2 ⟨by omega, by omega, okL_mem h3.2 k hk⟩
theorem cntL_reverse (l : List Sn) : cntL l.reverse = cntL l := by
  induction l with
  | nil => rfl
  | cons a l ih => rw [List.reverse_cons, cntL_app, ih]; simp only [cntL]; omega
theorem valid_back {s : Sn} (h : validB s = true) (ho : s.op = 8 ∨ s.op = 9) : validB (.node s.op [] 0 s.kids.reverse) = true := by
  obtain ⟨h1, h2, h3⟩ := (valid_iff s).1 h
  rw [cnt_eq] at h1
  rw [dep_eq] at h2
  rw [okB_eq, Bool.and_eq_true] at h3
  obtain ⟨n1, n2, n3, n4⟩ := (nodeB_iff s).1 h3.1
  have hm : many s.op = true := by unfold many; rw [decide_eq_true_eq]; exact ho
  have hn : named s.op = false := by unfold named; rw [decide_eq_false_iff_not]; omega
  rw [hm, if_pos rfl, decide_eq_true_eq] at n4
  refine (valid_iff _).2 ⟨?_, ?_, ?_⟩
  · rw [cnt_eq]; show 1 + cntL s.kids.reverse ≤ 200; rw [cntL_reverse]; exact h1
  · rw [dep_eq]
    show depL s.kids.reverse + 1 ≤ 20
    have : depL s.kids.reverse ≤ 19 := depL_le fun k hk => by have := dep_le_of_mem (List.mem_reverse.1 hk); omega
    omega
  · rw [okB_eq, Bool.and_eq_true]
    refine ⟨(nodeB_iff _).2 ⟨n1, ?_, .inl rfl, ?_⟩, ?_⟩
    · show (if named s.op then _ else _) = true
      rw [hn]; rfl
    · show (if many s.op then decide (2 ≤ s.kids.reverse.length) else _) = true
      rw [hm, if_pos rfl, List.length_reverse, decide_eq_true n4]
    · show okL s.kids.reverse = true
      rw [okL_all, List.all_reverse, ← okL_all]; exact h3.2
theorem hol_all (E : Env) (s : Sn) (h : s.op = 8) : hol E s = s.kids.all (hol E) := by
  rw [hol_eq, h]; simp
theorem hol_any (E : Env) (s : Sn) (h : s.op = 9) : hol E s = s.kids.any (hol E) := by
  rw [hol_eq, h]; simp
theorem holds_kid {E : Env} {s k : Sn} (h : validB s = true) (hk : k ∈ s.kids) : holds E k = hol E k := by
  unfold holds
  rw [valid_kid h hk, Bool.true_and]
theorem holds_back {E : Env} {s : Sn} (h : validB s = true) (ho : s.op = 8 ∨ s.op = 9) : holds E (.node s.op [] 0 s.kids.reverse) = holds E s := by
  unfold holds
  rw [h, valid_back h ho, Bool.true_and, Bool.true_and]
  rcases ho with ho | ho
  · rw [hol_all E s ho, hol_all E (.node s.op [] 0 s.kids.reverse) ho]
    show s.kids.reverse.all _ = _
    rw [List.all_reverse]
  · rw [hol_any E s ho, hol_any E (.node s.op [] 0 s.kids.reverse) ho]
    show s.kids.reverse.any _ = _
    rw [List.any_reverse]
theorem holds_all {E : Env} {s : Sn} (h : validB s = true) (ho : s.op = 8) : holds E s = s.kids.all (holds E) := by
  have e : holds E s = hol E s := by unfold holds; rw [h, Bool.true_and]
  rw [e, hol_all E s ho]
  exact (all_same fun k hk => holds_kid h hk).symm
theorem holds_any {E : Env} {s : Sn} (h : validB s = true) (ho : s.op = 9) : holds E s = s.kids.any (holds E) := by
  have e : holds E s = hol E s := by unfold holds; rw [h, Bool.true_and]
  rw [e, hol_any E s ho]
  exact (any_same fun k hk => holds_kid h hk).symm
/-! ### More -/
/-- A greater world. -/
structure Le (E F : Env) : Prop where
  day : E.day ≤ F.day
  hap : ∀ b n, hapB E b n = true → hapB F b n = true
  bg : ∀ id, reach E.day ((stuOf E.l id).map (·.begin_)) = true → reach F.day ((stuOf F.l id).map (·.begin_)) = true
  en : ∀ id, reach E.day ((stuOf E.l id).map (·.end_)) = true → reach F.day ((stuOf F.l id).map (·.end_)) = true
theorem hol_mono {E F : Env} (h : Le E F) : ∀ s : Sn, hol E s = true → hol F s = true := Sn.ind fun s ih => by
  rw [hol_eq, hol_eq]
  by_cases h1 : s.op = 1
  · simp [h1]
  by_cases h3 : s.op = 3
  · simp only [h3]
    simp only [if_neg (show (3 : Int) ≠ 1 by decide), if_true, decide_eq_true_eq]
    intro h0
    have := h.day
    omega
  by_cases h4 : s.op = 4 ∨ s.op = 5
  · rw [if_neg h1, if_neg h3, if_pos h4, if_neg h1, if_neg h3, if_pos h4]
    exact h.hap _ _
  by_cases h6 : s.op = 6
  · rw [if_neg h1, if_neg h3, if_neg h4, if_pos h6, if_neg h1, if_neg h3, if_neg h4, if_pos h6]
    exact h.bg _
  by_cases h7 : s.op = 7
  · rw [if_neg h1, if_neg h3, if_neg h4, if_neg h6, if_pos h7, if_neg h1, if_neg h3, if_neg h4, if_neg h6, if_pos h7]
    exact h.en _
  by_cases h8 : s.op = 8
  · rw [if_neg h1, if_neg h3, if_neg h4, if_neg h6, if_neg h7, if_pos h8, if_neg h1, if_neg h3, if_neg h4, if_neg h6, if_neg h7, if_pos h8]
    rw [List.all_eq_true, List.all_eq_true]
    exact fun h k hk => ih k hk (h k hk)
  by_cases h9 : s.op = 9
  · rw [if_neg h1, if_neg h3, if_neg h4, if_neg h6, if_neg h7, if_neg h8, if_pos h9, if_neg h1, if_neg h3, if_neg h4, if_neg h6, if_neg h7, if_neg h8, if_pos h9]
    rw [List.any_eq_true, List.any_eq_true]
    exact fun ⟨k, hk, h⟩ => ⟨k, hk, ih k hk h⟩
  · rw [if_neg h1, if_neg h3, if_neg h4, if_neg h6, if_neg h7, if_neg h8, if_neg h9]
    exact fun h => nomatch h
theorem holds_mono {E F : Env} (h : Le E F) {s : Sn} (hs : holds E s = true) : holds F s = true := by
  unfold holds at hs ⊢
  rw [Bool.and_eq_true] at hs ⊢
  exact ⟨hs.1, hol_mono h s hs.2⟩
theorem hapB_mono {E F : Env} (h1 : ∀ x ∈ E.h, x ∈ F.h) (h2 : E.day ≤ F.day) (h3 : E.known ≤ F.known) (b : Bool) (n : Tx) (h : hapB E b n = true) : hapB F b n = true := by
  unfold hapB at h ⊢
  rw [List.any_eq_true] at h ⊢
  obtain ⟨x, hx, h⟩ := h
  rw [decide_eq_true_eq] at h
  exact ⟨x, h1 x hx, by rw [decide_eq_true_eq]; exact ⟨h.1, h.2.1, by omega, by omega⟩⟩
theorem reach_mono {d e : Int} (h : d ≤ e) {o : Option Int} (hr : reach d o = true) : reach e o = true := by
  cases o with
  | none => exact hr
  | some n =>
    simp only [reach, decide_eq_true_eq] at hr ⊢
    omega
theorem le_later {E : Env} {d : Int} (h : E.day ≤ d) : Le E { E with day := d } := ⟨h, hapB_mono (fun _ h => h) h (Int.le_refl _), fun id hr => reach_mono h hr, fun id hr => reach_mono h hr⟩
theorem le_known {E : Env} {k : Int} (h : E.known ≤ k) : Le E { E with known := k } := ⟨Int.le_refl _, hapB_mono (fun _ h => h) (Int.le_refl _) h, fun _ h => h, fun _ h => h⟩
theorem le_more {E : Env} {x : Hap} : Le E { E with h := E.h ++ [x] } := ⟨Int.le_refl _, hapB_mono (fun _ h => List.mem_append_left _ h) (Int.le_refl _) (Int.le_refl _), fun _ h => h, fun _ h => h⟩
/-- A day that comes earlier. -/
def earlier (by_ : Int) (d : Int) : Int := if 0 ≤ d then max 0 (d - by_) else d
def earlyS (by_ : Int) (y : Stu) : Stu := ⟨y.id, earlier by_ y.begin_, earlier by_ y.end_, y.again⟩
theorem stuOf_map (b : Int) (l : List Stu) (id : Tx) : stuOf (l.map (earlyS b)) id = (stuOf l id).map (earlyS b) := by
  unfold stuOf
  induction l with
  | nil => rfl
  | cons a l ih =>
    rw [List.map_cons, List.find?_cons, List.find?_cons]
    by_cases h : a.id = id
    · rw [show decide ((earlyS b a).id = id) = true from decide_eq_true h, decide_eq_true h]; rfl
    · rw [show decide ((earlyS b a).id = id) = false from decide_eq_false h, decide_eq_false h]; exact ih
theorem reach_early {d b n : Int} (hb : 0 ≤ b) (h : reach d (some n) = true) : reach d (some (earlier b n)) = true := by
  simp only [reach, decide_eq_true_eq] at h ⊢
  have e : earlier b n = max 0 (n - b) := if_pos h.1
  omega
theorem le_early {E : Env} {b : Int} (hb : 0 ≤ b) : Le E { E with l := E.l.map (earlyS b) } := by
  refine ⟨Int.le_refl _, fun _ _ h => h, fun id hr => ?_, fun id hr => ?_⟩
  · show reach E.day ((stuOf (E.l.map (earlyS b)) id).map (·.begin_)) = true
    rw [stuOf_map]
    cases hs : stuOf E.l id with
    | none => rw [hs] at hr; exact hr
    | some x => rw [hs] at hr; exact reach_early hb hr
  · show reach E.day ((stuOf (E.l.map (earlyS b)) id).map (·.end_)) = true
    rw [stuOf_map]
    cases hs : stuOf E.l id with
    | none => rw [hs] at hr; exact hr
    | some x => rw [hs] at hr; exact reach_early hb hr
/-! ### Names -/
theorem mem_addT {l : List Tx} {t u : Tx} : u ∈ addT l t ↔ u ∈ l ∨ u = t := by
  unfold addT
  split
  · rename_i h
    constructor
    · exact .inl
    · rintro (h2 | rfl)
      · exact h2
      · exact h
  · rw [List.mem_append, List.mem_singleton]
theorem addT_nodup {l : List Tx} (t : Tx) (h : l.Nodup) : (addT l t).Nodup := by
  unfold addT
  split
  · exact h
  · rename_i hn
    rw [List.nodup_append]
    refine ⟨h, List.pairwise_singleton _ t, fun a ha b hb e => ?_⟩
    rw [List.mem_singleton.1 hb] at e
    exact hn (e ▸ ha)
mutual
theorem nms_sub : ∀ (s : Sn) (acc : List Tx) (t : Tx), t ∈ acc → t ∈ nms s acc
  | .node o n d ks, acc, t, h => by
    simp only [nms]
    exact nmsL_sub ks _ t (by split; exact mem_addT.2 (.inl h); exact h)
theorem nmsL_sub : ∀ (l : List Sn) (acc : List Tx) (t : Tx), t ∈ acc → t ∈ nmsL l acc
  | [], acc, t, h => h
  | k :: ks, acc, t, h => nmsL_sub ks _ t (nms_sub k acc t h)
end
mutual
theorem nms_nodup : ∀ (s : Sn) (acc : List Tx), acc.Nodup → (nms s acc).Nodup
  | .node o n d ks, acc, h => by
    simp only [nms]
    exact nmsL_nodup ks _ (by split; exact addT_nodup n h; exact h)
theorem nmsL_nodup : ∀ (l : List Sn) (acc : List Tx), acc.Nodup → (nmsL l acc).Nodup
  | [], acc, h => h
  | k :: ks, acc, h => nmsL_nodup ks _ (nms_nodup k acc h)
end
theorem nmsL_kid {l : List Sn} {k : Sn} (hk : k ∈ l) : ∀ (acc : List Tx), ∃ a2, ∀ t, t ∈ nms k a2 → t ∈ nmsL l acc := by
  induction l with
  | nil => cases hk
  | cons a l ih =>
    intro acc
    rcases List.mem_cons.1 hk with rfl | hk
    · exact ⟨acc, fun t ht => nmsL_sub l _ t ht⟩
    · obtain ⟨a2, h2⟩ := ih hk (nms a acc)
      exact ⟨a2, h2⟩
theorem hol_congr {E F : Env} (h1 : E.day = F.day) (h2 : E.known = F.known) (h3 : E.h = F.h) : ∀ (s : Sn), ∀ acc, (∀ id ∈ nms s acc, stuOf E.l id = stuOf F.l id) → hol E s = hol F s := Sn.ind fun s ih => by
  intro acc hs
  rw [nms_eq] at hs
  have hh : ∀ b n, hapB E b n = hapB F b n := fun b n => by unfold hapB; rw [h1, h2, h3]
  have hkids : ∀ k ∈ s.kids, hol E k = hol F k := fun k hk => by
    obtain ⟨a2, ha2⟩ := nmsL_kid hk (if s.op = 6 ∨ s.op = 7 then addT acc s.name else acc)
    exact ih k hk a2 fun id hid => hs id (ha2 id hid)
  have hid : s.op = 6 ∨ s.op = 7 → stuOf E.l s.name = stuOf F.l s.name := fun ho => hs _ (nmsL_sub _ _ _ (by rw [if_pos ho]; exact mem_addT.2 (.inr rfl)))
  rw [hol_eq, hol_eq, h1, hh]
  by_cases h6 : s.op = 6
  · rw [hid (.inl h6), all_same hkids, any_same hkids]
  · by_cases h7 : s.op = 7
    · rw [hid (.inr h7), all_same hkids, any_same hkids]
    · rw [if_neg h6, if_neg h6, if_neg h7, if_neg h7, all_same hkids, any_same hkids]
theorem names_nodup (s : Sn) : (names s).Nodup := by
  unfold names
  split
  · exact nms_nodup s [] List.nodup_nil
  · exact List.nodup_nil
theorem holds_names {E : Env} {s : Sn} {l : List Stu} (h : ∀ id ∈ names s, stuOf E.l id = stuOf l id) : holds E s = holds { E with l := l } s := by
  unfold holds
  cases hv : validB s with
  | false => rfl
  | true =>
    rw [Bool.true_and, Bool.true_and]
    unfold names at h
    rw [hv, if_pos rfl] at h
    exact hol_congr (E := E) (F := { E with l := l }) rfl rfl rfl s [] h
/-- The statuses left, with another one. -/
def lessL (N : List Tx) (l : List Stu) (x : Stu) : List Stu := l.filter (fun y => decide (y.id ∈ N)) ++ (if x.id ∈ N then [] else [x])
theorem stuOf_filter {N : List Tx} {id : Tx} (hid : id ∈ N) (l : List Stu) : stuOf (l.filter fun y => decide (y.id ∈ N)) id = stuOf l id := by
  unfold stuOf
  induction l with
  | nil => rfl
  | cons a l ih =>
    rw [List.filter_cons, List.find?_cons]
    by_cases h : a.id = id
    · rw [if_pos (by rw [h]; exact decide_eq_true hid), List.find?_cons, decide_eq_true h]
    · rw [decide_eq_false h]
      split
      · rw [List.find?_cons, decide_eq_false h]; exact ih
      · exact ih
theorem stuOf_less {N : List Tx} {l : List Stu} {x : Stu} {id : Tx} (hid : id ∈ N) : stuOf (lessL N l x) id = stuOf l id := by
  rw [← stuOf_filter hid l]
  unfold lessL stuOf
  rw [List.find?_append]
  cases hf : (l.filter fun y => decide (y.id ∈ N)).find? fun x => decide (x.id = id) with
  | some y => rfl
  | none =>
    split
    · rfl
    · rename_i hn
      rw [List.find?_cons, decide_eq_false (fun e => hn (by rw [e]; exact hid))]
      rfl
theorem holds_less (E : Env) (s : Sn) (x : Stu) : holds E s = holds { E with l := lessL (names s) E.l x } s := holds_names fun id hid => (stuOf_less hid).symm
end Go.Sta
