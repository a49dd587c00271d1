/-
  Conditions of commencement: what is read fits into a machine, and its nodes are as required; plain Lean.
-/
import Derived.Test.YtebaoilkpedppaaGreatDoorQStX
set_option linter.unusedVariables false
set_option linter.unusedSimpArgs false
set_option linter.unnecessarySimpa false
set_option maxRecDepth 10000
namespace Go.Sta
open Go.Lexs
theorem gather_all {Q : Tok → Prop} : ∀ (fs : List Lexs.Found) (acc l : List Tok), (∀ x ∈ fs, x.err = 0 → Q x.tok) → (∀ t ∈ acc, Q t) → acc.length ≤ 5000 → gather acc fs = .ok l → (∀ t ∈ l, Q t) ∧ l.length ≤ 5000
  | [], acc, l, h, ha, hn, hg => by cases hg; exact ⟨ha, hn⟩
  | f :: fs, acc, l, h, ha, hn, hg => by
    simp only [gather] at hg
    split at hg
    · cases hg
    · rename_i he
      split at hg
      · cases hg
      · refine gather_all fs _ l (fun x hx => h x (List.mem_cons_of_mem _ hx)) (fun t ht => ?_) (by simp; omega) hg
        rcases List.mem_append.1 ht with ht | ht
        · exact ha t ht
        · rw [List.mem_singleton.1 ht]
          exact h f List.mem_cons_self (by simpa using he)
theorem founds_all {Q : Tok → Prop} (hq : ∀ (a : Nat) (s : Tx), s ≠ [] → skip false s = s → (one s).err = 0 → Q (found a s).tok) : ∀ (n a : Nat) (s : Tx), ∀ x ∈ founds n a s, x.err = 0 → Q x.tok
  | 0, a, s, x, hx, _ => by simp [founds] at hx
  | n + 1, a, s, x, hx, he => by
    simp only [founds] at hx
    cases hs : skip false s with
    | nil => rw [hs] at hx; simp at hx
    | cons c s' =>
      have hk : skip false (c :: s') = c :: s' := by rw [← hs]; exact skip_skip false s
      rw [hs] at hx
      simp only [List.mem_cons] at hx
      rcases hx with rfl | hx
      · exact hq _ _ (List.cons_ne_nil _ _) hk he
      · split at hx
        · exact founds_all hq n _ _ x hx he
        · cases hx
theorem lex_all {Q : Tok → Prop} (hq : ∀ (a : Nat) (s : Tx), s ≠ [] → skip false s = s → (one s).err = 0 → Q (found a s).tok) {s : Tx} {l : List Tok} (h : lex s = .ok l) : (∀ t ∈ l, Q t) ∧ l.length ≤ 5000 := by
  unfold lex at h
  split at h
  · cases h
  · exact gather_all _ [] l (founds_all hq _ _ _) (fun t ht => nomatch ht) (by decide) h
theorem spanLen_all_take {p : UInt8 → Bool} : ∀ (s : Tx), (s.take (spanLen p s)).all p = true
  | [] => rfl
  | c :: s => by
    simp only [spanLen]
    by_cases h : p c = true
    · rw [if_pos h, List.take_succ_cons, List.all_cons, h, spanLen_all_take s]; rfl
    · rw [if_neg h]; rfl
theorem isWord_name {c : UInt8} (h : isWord c = true) : (isLet c || isDig c) = true := by
  by_cases h1 : isLet c = true
  · rw [h1]; rfl
  · by_cases h2 : isDig c = true
    · rw [h2]; simp
    · exfalso
      rw [isLet_eq] at h1
      unfold isDig at h2
      rw [Bool.or_eq_true, not_or] at h2
      have h3 : isDigit c = false := by simpa [isDigit] using h2.1
      have h4 : c ≠ 95 := by simpa using h2.2
      unfold isWord at h
      simp only [Bool.or_eq_true, beq_iff_eq] at h
      unfold cls at h
      rw [if_neg (by simpa using h1), h3, if_neg (by decide)] at h
      revert h
      (repeat' split) <;> simp_all
def TokOk (t : Tok) : Prop := t.text.length ≤ 1000000 ∧ (t.kind = 1 → nameB t.text = true)
theorem one_if {q : Prop} [Decidable q] {a b : One} (ha : a.kind = 2) (hb : b.kind = 2) : (if q then a else b).kind = 2 := by split <;> assumption
theorem found_name (a : Nat) (s : Tx) (hne : s ≠ []) (he : (one s).err = 0) (hk : (one s).kind = 1) : nameB (found a s).tok.text = true := by
  show nameB (s.take (one s).len) = true
  cases s with
  | nil => exact absurd rfl hne
  | cons c s =>
    have hd3 : cls c = 3 := by
      unfold one at hk
      simp only [hd] at hk
      split at hk
      · assumption
      · exact absurd (hk.symm.trans (one_if rfl rfl)) (by decide)
      · cases hk
      · cases hk
      · split at hk <;> cases hk
      · cases hk
    have ho : one (c :: s) = ⟨1, spanLen isWord (c :: s), 0, if 24 < spanLen isWord (c :: s) then 2 else 0⟩ := by
      unfold one
      simp only [hd, hd3]
    rw [ho] at he ⊢
    simp only at he ⊢
    have hlen : spanLen isWord (c :: s) ≤ 24 := by
      by_cases h : 24 < spanLen isWord (c :: s)
      · rw [if_pos h] at he; cases he
      · omega
    have hw : isWord c = true := by simp [isWord, hd3]
    have hall := spanLen_all_take (p := isWord) (c :: s)
    have e : spanLen isWord (c :: s) = spanLen isWord s + 1 := by simp only [spanLen]; rw [if_pos hw]
    rw [e] at hall hlen ⊢
    rw [List.take_succ_cons] at hall ⊢
    rw [List.all_cons, Bool.and_eq_true] at hall
    have hl : isLet c = true := by
      rw [isLet_eq]
      by_cases h : isLetter c = true
      · exact h
      · exfalso
        unfold cls at hd3
        rw [if_neg h] at hd3
        revert hd3
        (repeat' split) <;> simp_all
    simp only [nameB, hl, Bool.true_and, Bool.and_eq_true, decide_eq_true_eq]
    refine ⟨?_, ?_⟩
    · have h2 := hall.2
      rw [List.all_eq_true] at h2 ⊢
      exact fun d hd => isWord_name (h2 d hd)
    · have := List.length_take_le (spanLen isWord s) s
      omega
theorem lex_tok {s : Tx} {l : List Tok} (h : lex s = .ok l) : (∀ t ∈ l, TokOk t) ∧ l.length ≤ 5000 := by
  have hs : s.length ≤ 20000 := by
    unfold lex at h
    split at h
    · cases h
    · omega
  have h1 : (∀ t ∈ l, t.kind = 1 → nameB t.text = true) ∧ l.length ≤ 5000 := lex_all (fun a s hne _ he hk => found_name a s hne he hk) h
  refine ⟨fun t ht => ⟨?_, h1.1 t ht⟩, h1.2⟩
  have h2 : ∀ (n a : Nat) (s : Tx), ∀ x ∈ founds n a s, x.tok.text.length ≤ s.length := by
    intro n
    induction n with
    | zero => intro a s x hx; simp [founds] at hx
    | succ n ih =>
      intro a s x hx
      have hk := skip_length false s
      simp only [founds] at hx
      cases hs : skip false s with
      | nil => rw [hs] at hx; simp at hx
      | cons c s' =>
        rw [hs] at hx hk
        simp only [List.mem_cons] at hx
        rcases hx with rfl | hx
        · have := List.length_take_le (one (c :: s')).len (c :: s')
          have := List.length_take_le' (one (c :: s')).len (c :: s')
          simp only [found]
          omega
        · split at hx
          · have h3 := ih _ _ x hx
            rw [List.length_drop] at h3
            omega
          · cases hx
  have h4 : (∀ t ∈ l, t.text.length ≤ s.length) ∧ l.length ≤ 5000 := by
    unfold lex at h
    rw [if_neg (by omega)] at h
    exact gather_all _ [] l (fun x hx _ => h2 _ _ _ x hx) (fun t ht => nomatch ht) (by decide) h
  have := h4.1 t ht
  omega
def Good (read : List Tok → Rd Sn) : Prop := ∀ ts s r, (∀ t ∈ ts, TokOk t) → ts.length ≤ 5000 → read ts = .ok s r → fitS s ∧ okB s = true ∧ r.length < ts.length
theorem sevTail_good {w : Tx} {read : List Tok → Rd Sn} (he : Ends read) (h : Good read) : ∀ (n : Nat) (acc : List Sn) (ts : List Tok) (l : List Sn) (r : List Tok), (∀ t ∈ ts, TokOk t) → ts.length ≤ 5000 → (∀ k ∈ acc, fitS k ∧ okB k = true) → sevTail w read n acc ts = .ok l r → (∀ k ∈ l, fitS k ∧ okB k = true) ∧ l.length + r.length ≤ acc.length + ts.length ∧ acc.length ≤ l.length
  | 0, acc, ts, l, r, ht, hn, ha, e => by cases e; exact ⟨ha, Nat.le_refl _, Nat.le_refl _⟩
  | n + 1, acc, ts, l, r, ht, hn, ha, e => by
    simp only [sevTail] at e
    split at e
    · rename_i hw
      obtain ⟨t, ts', rfl⟩ := isT_ne hw
      rw [List.tail_cons] at e
      cases hr : read ts' with
      | bad e2 a2 => rw [hr] at e; cases e
      | ok x r2 =>
        rw [hr] at e
        have ht' : ∀ t ∈ ts', TokOk t := fun u hu => ht u (List.mem_cons_of_mem _ hu)
        simp only [List.length_cons] at hn
        obtain ⟨g1, g2, g3⟩ := h _ _ _ ht' (by omega) hr
        have hsuf := he _ _ _ hr
        obtain ⟨q1, q2, q3⟩ := sevTail_good he h n (acc ++ [x]) r2 l r (fun u hu => ht' u (hsuf.subset hu)) (by omega) (fun k hk => by
          rcases List.mem_append.1 hk with hk | hk
          · exact ha k hk
          · rw [List.mem_singleton.1 hk]; exact ⟨g1, g2⟩) e
        simp only [List.length_append, List.length_cons, List.length_nil] at q2 q3 ⊢
        exact ⟨q1, by omega, by omega⟩
    · cases e; exact ⟨ha, Nat.le_refl _, Nat.le_refl _⟩
theorem fitL_all {l : List Sn} (h : ∀ k ∈ l, fitS k) : fitL l := by
  induction l with
  | nil => trivial
  | cons a l ih => exact ⟨h a List.mem_cons_self, ih fun k hk => h k (List.mem_cons_of_mem _ hk)⟩
theorem okL_of {l : List Sn} (h : ∀ k ∈ l, okB k = true) : okL l = true := by
  rw [okL_all, List.all_eq_true]; exact h
theorem sev_good {w : Tx} {op : Int} (ho : op = 8 ∨ op = 9) {read : List Tok → Rd Sn} (he : Ends read) (h : Good read) : Good (sev w op read) := fun ts s r ht hn e => by
  unfold sev at e
  cases hr : read ts with
  | bad e2 a2 => rw [hr] at e; cases e
  | ok y r1 =>
    rw [hr] at e
    simp only at e
    obtain ⟨g1, g2, g3⟩ := h _ _ _ ht hn hr
    cases hq : sevTail w read r1.length [y] r1 with
    | bad e2 a2 => rw [hq] at e; cases e
    | ok l r2 =>
      rw [hq] at e
      cases e
      obtain ⟨q1, q2, q3⟩ := sevTail_good he h _ _ _ _ _ (fun u hu => ht u ((he _ _ _ hr).subset hu)) (by omega) (fun k hk => by rw [List.mem_singleton.1 hk]; exact ⟨g1, g2⟩) hq
      simp only [List.length_cons, List.length_nil] at q2 q3
      match l, q1, q2, q3 with
      | [x], q1, q2, q3 =>
        have := q1 x List.mem_cons_self
        have q2 : 0 + 1 + r.length ≤ 0 + 1 + r1.length := q2
        exact ⟨this.1, this.2, by omega⟩
      | x :: y :: l, q1, q2, q3 =>
        simp only [List.length_cons] at q2
        refine ⟨(fitS_eq _).2 ⟨by simp [joinS, Sn.name], ?_, ?_⟩, ?_, by omega⟩
        · show (x :: y :: l).length ≤ _
          simp only [List.length_cons]
          omega
        · exact fitL_all fun k hk => (q1 k hk).1
        · rw [okB_eq, Bool.and_eq_true]
          refine ⟨(nodeB_iff _).2 ?_, okL_of fun k hk => (q1 k hk).2⟩
          show (1 ≤ op ∧ op ≤ 9) ∧ (if named op then nameB [] else decide (([] : Tx) = [])) = true ∧ ((0 : Int) = 0 ∨ _) ∧ (if many op then decide (2 ≤ (x :: y :: l).length) else decide ((x :: y :: l) = [])) = true
          have hm : many op = true := by unfold many; rw [decide_eq_true ho]
          have hnm : named op = false := by unfold named; rw [decide_eq_false (by omega)]
          rw [hm, hnm, if_pos rfl, if_neg (by decide)]
          refine ⟨by omega, by decide, .inl rfl, ?_⟩
          rw [decide_eq_true_eq, List.length_cons, List.length_cons]
          omega
theorem leaf_good {op : Int} {name : Tx} {day : Int} (h1 : name.length ≤ 1000000) (h2 : (1 ≤ op ∧ op ≤ 7)) (h3 : (if named op then nameB name else decide (name = [])) = true) (h4 : day = 0 ∨ (op = 3 ∧ 0 < day ∧ day ≤ 1000000)) : fitS (.node op name day []) ∧ okB (.node op name day []) = true := by
  refine ⟨(fitS_eq _).2 ⟨?_, by simp [Sn.kids], trivial⟩, ?_⟩
  · show name.length ≤ _
    omega
  · rw [okB_eq, Bool.and_eq_true]
    refine ⟨(nodeB_iff _).2 ⟨?_, h3, h4, ?_⟩, rfl⟩
    · show 1 ≤ op ∧ op ≤ 9
      omega
    · show (if many op then decide (2 ≤ ([] : List Sn).length) else decide (([] : List Sn) = [])) = true
      have hm : many op = false := by unfold many; rw [decide_eq_false (by omega)]
      rw [hm]
      rfl
theorem wordR_good {en op : Int} (ho : 1 ≤ op ∧ op ≤ 7) {ts : List Tok} {s : Sn} {r : List Tok} (ht : ∀ t ∈ ts, TokOk t) (e : wordR en op ts = .ok s r) : fitS s ∧ okB s = true ∧ r.length ≤ ts.length := by
  have hs := (wordR_ends op _ _ _ e).length_le
  unfold wordR at e
  by_cases h3 : op = 3
  · rw [if_pos h3] at e
    cases hq : takeT en 2 ts with
    | bad e2 a2 => rw [hq] at e; cases e
    | ok t r2 =>
      rw [hq] at e
      simp only at e
      split at e
      · cases e
      · cases e
        have := leaf_good (op := 3) (name := []) (day := (t.num : Int)) (by simp) (by omega) (by decide) (by omega)
        exact ⟨this.1, this.2, hs⟩
  · rw [if_neg h3] at e
    split at e
    · rename_i hn
      cases hq : takeT en 1 ts with
      | bad e2 a2 => rw [hq] at e; cases e
      | ok t r2 =>
        rw [hq] at e
        obtain ⟨rfl, hk⟩ := takeT_ends hq
        cases e
        have ht1 := ht t List.mem_cons_self
        have := leaf_good (op := op) (name := t.text) (day := 0) ht1.1 ho (by rw [if_pos hn]; exact ht1.2 hk) (.inl rfl)
        exact ⟨this.1, this.2, hs⟩
    · rename_i hn
      cases e
      have := leaf_good (op := op) (name := []) (day := 0) (by simp) ho (by rw [if_neg hn]; rfl) (.inl rfl)
      exact ⟨this.1, this.2, hs⟩
theorem pOne_good (en : Int) : ∀ f, Good (pOne en f)
  | 0 => fun ts s r ht hn e => nomatch e
  | f + 1 => fun ts s r ht hn e => by
    simp only [pOne] at e
    split at e
    · rename_i ho
      obtain ⟨t, ts', rfl⟩ := isT_ne ho
      rw [List.tail_cons] at e
      have ht' : ∀ t ∈ ts', TokOk t := fun u hu => ht u (List.mem_cons_of_mem _ hu)
      simp only [List.length_cons] at hn
      cases hs : sev kOr 9 (sev kAnd 8 (pOne en f)) ts' with
      | bad e2 a2 => rw [hs] at e; cases e
      | ok s2 r2 =>
        rw [hs] at e
        simp only at e
        obtain ⟨g1, g2, g3⟩ := sev_good (.inr rfl) (pAll_ends en f) (sev_good (.inl rfl) (pOne_ends en f) (pOne_good en f)) _ _ _ ht' (by omega) hs
        split at e
        · cases e
          refine ⟨g1, g2, ?_⟩
          have := List.length_tail (l := r2)
          simp only [List.length_cons]
          omega
        · cases e
    · cases hf : wordL.find? fun p => isT p.1 ts with
      | none => rw [hf] at e; cases e
      | some p =>
        rw [hf] at e
        have hp := List.find?_some hf
        obtain ⟨t, ts', rfl⟩ := isT_ne hp
        have hmem := List.mem_of_find?_eq_some hf
        have hop : ∀ p ∈ wordL, 1 ≤ p.2 ∧ p.2 ≤ 7 := by decide
        obtain ⟨g1, g2, g3⟩ := wordR_good (hop p hmem) (fun u hu => ht u (List.mem_cons_of_mem _ hu)) e
        refine ⟨g1, g2, ?_⟩
        simp only [List.tail_cons, List.length_cons] at g3 ⊢
        omega
theorem pStart_good (en : Int) (f : Nat) : Good (pStart en f) := sev_good (.inr rfl) (pAll_ends en f) (sev_good (.inl rfl) (pOne_ends en f) (pOne_good en f))
end Go.Sta
