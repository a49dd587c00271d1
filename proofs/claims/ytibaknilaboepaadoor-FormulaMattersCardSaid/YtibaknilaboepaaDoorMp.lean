/-
  The statement FormulaMatters, plain part.
-/
import Derived.Test.YtibaknilaboepaaDoorFG
set_option linter.unusedVariables false
set_option linter.unusedSimpArgs false
set_option linter.unnecessarySimpa false
set_option maxRecDepth 10000
namespace Go.Fo
open Go.Lexs Go.Fin

theorem foldT_iff {s : List UInt8} : ∀ (p : List Fm) (l : List (List UInt8)), s ∈ p.foldl addT l ↔ s ∈ l ∨ ∃ x ∈ p, x.op = 4 ∧ x.name = s
  | [], l => by simp
  | x :: p, l => by
    rw [List.foldl_cons, foldT_iff p]
    unfold addT
    by_cases h : x.op = 4 ∧ l.contains x.name = false
    · rw [if_pos h]
      simp only [List.mem_append, List.mem_singleton, List.mem_cons, exists_eq_or_imp]
      constructor
      · rintro ((h1 | h1) | h1)
        · exact .inl h1
        · exact .inr (.inl ⟨h.1, by simpa [eq_comm] using h1⟩)
        · exact .inr (.inr h1)
      · rintro (h1 | ⟨-, rfl⟩ | h1)
        · exact .inl (.inl h1)
        · exact .inl (.inr (by simp))
        · exact .inr h1
    · rw [if_neg h]
      simp only [List.mem_cons, exists_eq_or_imp]
      constructor
      · rintro (h1 | h1)
        · exact .inl h1
        · exact .inr (.inr h1)
      · rintro (h1 | ⟨h1, rfl⟩ | h1)
        · exact .inl h1
        · by_cases hc : l.contains x.name = true
          · exact .inl (List.contains_iff_mem.1 hc)
          · exact absurd ⟨h1, by simpa using hc⟩ h
        · exact .inr h1
theorem termsOf_iff {s : List UInt8} {f : Fm} : s ∈ termsOf f ↔ ∃ x ∈ pre f, x.op = 4 ∧ x.name = s := by
  unfold termsOf; rw [foldT_iff]; simp
theorem foldT_nodup : ∀ (p : List Fm) (l : List (List UInt8)), l.Nodup → (p.foldl addT l).Nodup
  | [], l, h => h
  | x :: p, l, h => by
    rw [List.foldl_cons]
    refine foldT_nodup p _ ?_
    unfold addT
    split
    · rename_i hx
      refine List.nodup_append.2 ⟨h, by simp, fun a ha b hb e => ?_⟩
      have hb : b = x.name := by simpa using hb
      subst e
      subst hb
      have := List.contains_iff_mem.2 ha
      rw [hx.2] at this
      cases this
    · exact h
theorem termsOf_nodup (f : Fm) : (termsOf f).Nodup := foldT_nodup _ _ List.nodup_nil

def less (T : List (List UInt8)) (i : Nat) : List (List UInt8) := T.take i ++ T.drop (i + 1)
theorem less_not {T : List (List UInt8)} (h : T.Nodup) {i : Nat} (hi : i < T.length) : T[i] ∉ less T i := by
  have h1 : T = T.take i ++ (T[i] :: T.drop (i + 1)) := by rw [List.getElem_cons_drop, List.take_append_drop]
  intro hm
  rw [h1] at h
  obtain ⟨h2, h3, h4⟩ := List.nodup_append.1 h
  rcases List.mem_append.1 hm with hm | hm
  · exact h4 _ hm _ List.mem_cons_self rfl
  · exact (List.nodup_cons.1 h3).1 hm

theorem firstE_seven {F : List Fact} {known : List UInt8 → Bool} : ∀ {l : List Fm}, (∀ x ∈ l, nodeE F known x = 0 ∨ nodeE F known x = 7) → (∃ x ∈ l, nodeE F known x = 7) → firstE F known l = 7
  | [], _, ⟨x, h, _⟩ => nomatch h
  | y :: l, h1, ⟨x, h2, h3⟩ => by
    rw [firstE]
    rcases h1 y List.mem_cons_self with h | h
    · rw [h, if_neg (by simp)]
      refine firstE_seven (fun z hz => h1 z (List.mem_cons_of_mem _ hz)) ?_
      rcases List.mem_cons.1 h2 with rfl | h2
      · rw [h] at h3; cases h3
      · exact ⟨x, h2, h3⟩
    · rw [h, if_pos (by simp)]
theorem nodeE_less {F : List Fact} {known known' : List UInt8 → Bool} {x : Fm} (h : nodeE F known x = 0) : nodeE F known' x = if x.op = 4 ∧ known' x.name = false then 7 else 0 := by
  unfold nodeE at h ⊢
  split at h
  · cases h
  rename_i h1
  split at h
  · cases h
  rename_i h2
  split at h
  · cases h
  rename_i h3
  rw [if_neg h1, if_neg h2]
  by_cases h4 : x.op = 4 ∧ known' x.name = false
  · rw [if_pos (.inr h4), if_pos h4]
  · rw [if_neg h4, if_neg]
    rintro (h5 | h5)
    · exact h3 (.inl h5)
    · exact h4 h5
theorem less_name {F : List Fact} {c : List Int} {f : Fm} (hg : goodB F c f = true) {i : Nat} (hi : i < (termsOf f).length) : checkE F (fun s => (less (termsOf f) i).contains s) f = 7 := by
  obtain ⟨⟨h1, h2⟩, -, hck⟩ := goodB_iff.1 hg
  have h0 := firstE_mem.1 (checkE_zero.1 hck).2.2
  unfold checkE
  rw [if_neg (by omega)]
  have hn : ∀ x ∈ pre f, nodeE F (fun s => (less (termsOf f) i).contains s) x = if x.op = 4 ∧ (less (termsOf f) i).contains x.name = false then 7 else 0 := fun x hx => nodeE_less (h0 x hx)
  refine firstE_seven (fun x hx => ?_) ?_
  · rw [hn x hx]
    split
    · exact .inr rfl
    · exact .inl rfl
  · obtain ⟨x, hx, h4, he⟩ := termsOf_iff.1 (List.getElem_mem hi)
    refine ⟨x, hx, ?_⟩
    have hno : (less (termsOf f) i).contains x.name = false := by
      have := less_not (termsOf_nodup f) hi
      rw [← List.contains_iff_mem, ← he] at this
      simpa using this
    rw [hn x hx, if_pos ⟨h4, hno⟩]

theorem all_congr {p q : Fm → Bool} : ∀ {ks : List Fm}, (∀ k ∈ ks, p k = q k) → ks.all p = ks.all q
  | [], _ => rfl
  | k :: ks, h => by rw [List.all_cons, List.all_cons, h k List.mem_cons_self, all_congr fun x hx => h x (List.mem_cons_of_mem _ hx)]
theorem any_congr {p q : Fm → Bool} : ∀ {ks : List Fm}, (∀ k ∈ ks, p k = q k) → ks.any p = ks.any q
  | [], _ => rfl
  | k :: ks, h => by rw [List.any_cons, List.any_cons, h k List.mem_cons_self, any_congr fun x hx => h x (List.mem_cons_of_mem _ hx)]
theorem pre_kid {f k x : Fm} (hk : k ∈ f.kids) (hx : x ∈ pre k) : x ∈ pre f := by
  obtain ⟨i, hi, rfl⟩ := List.mem_iff_getElem.1 hk
  rw [pre_eq, preL_split' hi]
  simp [hx]
theorem eval_agree {F : List Fact} {c c' : List Int} {T T' : List (List UInt8)} : ∀ f : Fm, (∀ x ∈ pre f, x.op = 3 → valAt F c x.name = valAt F c' x.name) → (∀ x ∈ pre f, x.op = 4 → T.contains x.name = T'.contains x.name) → eval F c T f = eval F c' T' f := by
  refine Fm.ind ?_
  intro f ih h3 h4
  have hk : ∀ k ∈ f.kids, eval F c T k = eval F c' T' k := fun k hk => ih k hk (fun x hx => h3 x (pre_kid hk hx)) (fun x hx => h4 x (pre_kid hk hx))
  have hself : f ∈ pre f := by rw [pre_eq]; exact List.mem_cons_self
  have hfst : evalFirst F c T f.kids = evalFirst F c' T' f.kids := by
    cases hks : f.kids with
    | nil => rfl
    | cons k ks =>
      show eval F c T k = eval F c' T' k
      exact hk k (by rw [hks]; exact List.mem_cons_self)
  rw [eval_eq F c T f, eval_eq F c' T' f, all_congr hk, any_congr hk, hfst]
  by_cases e3 : f.op = 3
  · rw [if_pos e3, if_pos e3, h3 f hself e3]
  · by_cases e4 : f.op = 4
    · rw [if_neg e3, if_pos e4, if_neg e3, if_pos e4, h4 f hself e4]
    · simp only [e3, e4, if_false]

/-- The second case with the first one's values where the formula names the fact. -/
def mixed (F : List Fact) (f : Fm) (a b : List Int) (n : Nat) : List Int := (List.range b.length).map fun i => if i < n ∧ namedB (F.getD i ⟨[], 0, 0, 0⟩).name f = true then a.getD i 0 else b.getD i 0
theorem mixed_len (F : List Fact) (f : Fm) (a b : List Int) (n : Nat) : (mixed F f a b n).length = b.length := by simp [mixed]
theorem mixed_zero (F : List Fact) (f : Fm) (a b : List Int) : mixed F f a b 0 = b := by
  apply List.ext_getElem (by simp [mixed])
  intro i h1 h2
  simp [mixed, List.getD, h2]
theorem mixed_get {F : List Fact} {f : Fm} {a b : List Int} {n i : Nat} (h : i < b.length) : (mixed F f a b n)[i]? = some (if i < n ∧ namedB (F.getD i ⟨[], 0, 0, 0⟩).name f = true then a.getD i 0 else b.getD i 0) := by
  simp [mixed, h]
theorem mixed_step {F : List Fact} {f : Fm} {a b : List Int} {n : Nat} (hF : n < F.length) (ha : n < a.length) (hb : n < b.length) : mixed F f a b (n + 1) = if namedB F[n].name f = true then (mixed F f a b n).set n a[n] else mixed F f a b n := by
  apply List.ext_getElem?
  intro i
  by_cases hi : i < b.length
  · rw [mixed_get hi]
    have hFn : F.getD n ⟨[], 0, 0, 0⟩ = F[n] := by simp [List.getD, hF]
    have han : a.getD n 0 = a[n] := by simp [List.getD, ha]
    by_cases hin : i = n
    · subst hin
      rw [hFn, han]
      split
      · rename_i h
        rw [if_pos h.2, List.getElem?_set, if_pos rfl, if_pos (by rw [mixed_len]; exact hi)]
      · rename_i h
        rw [if_neg fun e => h ⟨by omega, e⟩, mixed_get hi, if_neg (by omega)]
    · have hx : (mixed F f a b n)[i]? = some (if i < n + 1 ∧ namedB (F.getD i ⟨[], 0, 0, 0⟩).name f = true then a.getD i 0 else b.getD i 0) := by
        rw [mixed_get hi]
        congr 1
        by_cases h : i < n
        · simp [h, show i < n + 1 by omega]
        · simp [h, show ¬ i < n + 1 by omega]
      rw [← mixed_get (F := F) (f := f) (a := a) (n := n + 1) hi] at hx ⊢
      rw [← hx]
      by_cases hq : namedB F[n].name f = true
      · rw [if_pos hq, List.getElem?_set, if_neg (fun e => hin e.symm)]
      · rw [if_neg hq]
  · rw [List.getElem?_eq_none (by rw [mixed_len]; omega), List.getElem?_eq_none]
    split
    · rw [List.length_set, mixed_len]; omega
    · rw [mixed_len]; omega

theorem fits_parts {F : List Fact} {c : List Int} (h : fitsB F c = true) : validD F = true ∧ c.length = F.length ∧ ∀ i (h : i < F.length) (h' : i < c.length), F[i].lo ≤ c[i] ∧ c[i] ≤ F[i].hi := by
  unfold fitsB at h
  obtain ⟨h1, h2⟩ := Bool.and_eq_true_iff.1 h
  exact ⟨h1, (fitsC_iff F c).1 h2⟩
theorem mixed_fits {F : List Fact} {f : Fm} {a b : List Int} (ha : fitsB F a = true) (hb : fitsB F b = true) : fitsB F (mixed F f a b F.length) = true := by
  obtain ⟨h1, h2, h3⟩ := fits_parts ha
  obtain ⟨-, h4, h5⟩ := fits_parts hb
  unfold fitsB
  rw [h1, Bool.true_and, fitsC_iff]
  refine ⟨by rw [mixed_len, h4], fun i hi hi' => ?_⟩
  have := mixed_get (F := F) (f := f) (a := a) (n := F.length) (show i < b.length by omega)
  rw [List.getElem?_eq_getElem hi'] at this
  rw [Option.some.inj this]
  split
  · simp only [List.getD, show i < a.length by omega, List.getElem?_eq_getElem, Option.getD_some]
    exact h3 i hi (by omega)
  · simp only [List.getD, show i < b.length by omega, List.getElem?_eq_getElem, Option.getD_some]
    exact h5 i hi (by omega)
theorem mixed_val {F : List Fact} {f : Fm} {a b : List Int} {s : List UInt8} (ha : fitsB F a = true) (hb : fitsB F b = true) (hn : namedB s f = true) : valAt F a s = valAt F (mixed F f a b F.length) s := by
  obtain ⟨-, h2, -⟩ := fits_parts ha
  obtain ⟨-, h4, -⟩ := fits_parts hb
  unfold valAt
  cases hi : idx F s with
  | none => rfl
  | some k =>
    have hk := idx_lt hi
    have hnm : F[k].name = s := by
      unfold idx at hi
      rw [List.findIdx?_eq_some_iff_getElem] at hi
      simpa using hi.2.1
    have := mixed_get (F := F) (f := f) (a := a) (n := F.length) (show k < b.length by omega)
    have hF : F.getD k ⟨[], 0, 0, 0⟩ = F[k] := by simp [List.getD, hk]
    rw [hF, hnm, if_pos ⟨hk, hn⟩] at this
    show a.getD k 0 = (mixed F f a b F.length).getD k 0
    conv => rhs; unfold List.getD
    rw [this]; rfl
theorem matters_law {F : List Fact} {a b : List Int} {T T' : List (List UInt8)} {f : Fm} (hg : goodB F a f = true) (hb : fitsB F b = true) (hT : ∀ t ∈ termsOf f, T.contains t = T'.contains t) : holdsB F a T f = holdsB F (mixed F f a b F.length) T' f := by
  obtain ⟨⟨h1, h2⟩, hfa, hck⟩ := goodB_iff.1 hg
  rw [holdsB_eval (by omega) (by omega) (good_right hg) hfa, holdsB_eval (by omega) (by omega) (good_right hg) (mixed_fits hfa hb)]
  refine eval_agree f (fun x hx h3 => mixed_val hfa hb ?_) (fun x hx h4 => hT _ (termsOf_iff.2 ⟨x, hx, h4, rfl⟩))
  unfold namedB
  exact List.any_eq_true.2 ⟨x, hx, by simp [h3]⟩
end Go.Fo
