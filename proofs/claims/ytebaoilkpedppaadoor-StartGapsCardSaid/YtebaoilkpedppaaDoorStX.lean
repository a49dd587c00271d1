/-
  Conditions of commencement: errors' places; tokens apart from places; parentheses; plain Lean.
-/
import Derived.Test.YtebaoilkpedppaaDoorStW
set_option linter.unusedVariables false
set_option linter.unusedSimpArgs false
set_option linter.unnecessarySimpa false
set_option maxRecDepth 10000
namespace Go.Sta
open Go.Lexs
/-! ### Places of errors -/
def AtLe (en : Int) (ts : List Tok) : Prop := ∀ t ∈ ts, (t.pos : Int) ≤ en
def BadLe {α : Type} (en : Int) (read : List Tok → Rd α) : Prop := ∀ ts e a, AtLe en ts → read ts = .bad e a → a ≤ en
theorem AtLe.suf {en : Int} {ts r : List Tok} (h : AtLe en ts) (hs : r <:+ ts) : AtLe en r := fun t ht => h t (hs.subset ht)
theorem AtLe.tail {en : Int} {ts : List Tok} (h : AtLe en ts) : AtLe en ts.tail := h.suf (List.tail_suffix _)
theorem failA_le {en : Int} {ts : List Tok} (h : AtLe en ts) : failA en ts ≤ en := by
  cases ts with
  | nil => exact Int.le_refl _
  | cons t r => exact h t List.mem_cons_self
theorem failR_le {α : Type} {en : Int} : BadLe en (failR (α := α) en) := fun ts e a h hb => by
  cases hb
  exact failA_le h
theorem sevTail_le {en : Int} {w : Tx} {read : List Tok → Rd Sn} (h : Ends read) (hb : BadLe en read) : ∀ (n : Nat) (acc : List Sn), BadLe en (sevTail w read n acc)
  | 0, acc => fun ts e a h hb => nomatch hb
  | n + 1, acc => fun ts e a hl he => by
    simp only [sevTail] at he
    split at he
    · cases hr : read ts.tail with
      | bad e2 a2 => rw [hr] at he; cases he; exact hb _ _ _ hl.tail hr
      | ok x r2 =>
        rw [hr] at he
        exact sevTail_le h hb n _ _ _ _ (hl.tail.suf (h _ _ _ hr)) he
    · cases he
theorem sev_le {en : Int} {w : Tx} {op : Int} {read : List Tok → Rd Sn} (h : Ends read) (hb : BadLe en read) : BadLe en (sev w op read) := fun ts e a hl he => by
  unfold sev at he
  cases hr : read ts with
  | bad e2 a2 => rw [hr] at he; cases he; exact hb _ _ _ hl hr
  | ok y r1 =>
    rw [hr] at he
    simp only at he
    cases ht : sevTail w read r1.length [y] r1 with
    | bad e2 a2 => rw [ht] at he; cases he; exact sevTail_le h hb _ _ _ _ _ (hl.suf (h _ _ _ hr)) ht
    | ok l r2 => rw [ht] at he; cases he
theorem takeT_le {en : Int} {k : Nat} : BadLe en (takeT en k) := fun ts e a hl he => by
  cases ts with
  | nil => exact failR_le [] e a hl he
  | cons t r =>
    simp only [takeT] at he
    split at he
    · cases he
    · exact failR_le _ e a hl he
theorem wordR_le {en : Int} (op : Int) : BadLe en (wordR en op) := fun ts e a hl he => by
  unfold wordR at he
  split at he
  · cases ht : takeT en 2 ts with
    | bad e2 a2 => rw [ht] at he; cases he; exact takeT_le _ _ _ hl ht
    | ok t r2 =>
      rw [ht] at he
      simp only at he
      obtain ⟨rfl, -⟩ := takeT_ends ht
      split at he
      · cases he; exact hl t List.mem_cons_self
      · cases he
  · split at he
    · cases ht : takeT en 1 ts with
      | bad e2 a2 => rw [ht] at he; cases he; exact takeT_le _ _ _ hl ht
      | ok t r2 => rw [ht] at he; cases he
    · cases he
theorem pOne_le (en : Int) : ∀ f, BadLe en (pOne en f)
  | 0 => failR_le
  | f + 1 => fun ts e a hl he => by
    simp only [pOne] at he
    split at he
    · cases hs : sev kOr 9 (sev kAnd 8 (pOne en f)) ts.tail with
      | bad e2 a2 => rw [hs] at he; cases he; exact sev_le (pAll_ends en f) (sev_le (pOne_ends en f) (pOne_le en f)) _ _ _ hl.tail hs
      | ok s r2 =>
        rw [hs] at he
        simp only at he
        split at he
        · cases he
        · exact failR_le _ _ _ (hl.tail.suf (pStart_ends en f _ _ _ hs)) he
    · cases hf : wordL.find? fun p => isT p.1 ts with
      | none => rw [hf] at he; exact failR_le _ _ _ hl he
      | some p => rw [hf] at he; exact wordR_le p.2 _ _ _ hl.tail he
theorem pStart_le (en : Int) (f : Nat) : BadLe en (pStart en f) := sev_le (pAll_ends en f) (sev_le (pOne_ends en f) (pOne_le en f))
theorem parseT_le {en : Int} (h0 : 0 ≤ en) {ts : List Tok} (h : AtLe en ts) {e a : Int} (hp : parseT en ts = .inr (e, a)) : a ≤ en := by
  unfold parseT at hp
  cases hr : pStart en (ts.length + 1) ts with
  | bad e2 a2 => rw [hr] at hp; cases hp; exact pStart_le _ _ _ _ _ h hr
  | ok s r =>
    rw [hr] at hp
    simp only at hp
    split at hp
    · split at hp
      · cases hp
      · cases hp; exact h0
    · cases hp
      exact failA_le (h.suf (pStart_ends _ _ _ _ _ hr))
theorem gather_at : ∀ (fs : List Lexs.Found) (acc : List Tok) (n : Nat), (∀ x ∈ fs, x.tok.pos ≤ n) → (∀ t ∈ acc, t.pos ≤ n) → (∀ l, gather acc fs = .ok l → ∀ t ∈ l, t.pos ≤ n) ∧ ∀ e a, gather acc fs = .bad e a → a ≤ (n : Int)
  | [], acc, n, h, ha => ⟨fun l hl => by cases hl; exact ha, fun e a hl => by cases hl⟩
  | f :: fs, acc, n, h, ha => by
    have hf := h f List.mem_cons_self
    simp only [gather]
    split
    · exact ⟨fun _ hl => (by cases hl), fun e a hl => (by cases hl; omega)⟩
    · split
      · exact ⟨fun _ hl => (by cases hl), fun e a hl => (by cases hl; omega)⟩
      · refine gather_at fs _ n (fun x hx => h x (List.mem_cons_of_mem _ hx)) fun t ht => ?_
        rcases List.mem_append.1 ht with ht | ht
        · exact ha t ht
        · rw [List.mem_singleton.1 ht]; exact hf
theorem founds_at : ∀ (n a : Nat) (s : List UInt8), ∀ x ∈ founds n a s, x.tok.pos ≤ a + s.length
  | 0, a, s, x, hx => by simp [founds] at hx
  | n + 1, a, s, x, hx => by
    have hk := skip_length false s
    simp only [founds] at hx
    cases hs : skip false s with
    | nil => rw [hs] at hx; simp at hx
    | cons c s' =>
      rw [hs] at hx hk
      simp only [List.mem_cons] at hx
      rcases hx with rfl | hx
      · simp only [found]; omega
      · split at hx
        · rename_i he
          have h1 := founds_at n _ _ x hx
          rw [List.length_drop] at h1
          have h2 := one_len_le (c :: s') (List.cons_ne_nil _ _)
          omega
        · cases hx
theorem lex_at {s : Tx} : (∀ l, lex s = .ok l → AtLe s.length l) ∧ ∀ e a, lex s = .bad e a → a ≤ (s.length : Int) := by
  unfold lex
  split
  · exact ⟨fun l h => (by cases h), fun e a h => (by cases h; omega)⟩
  · have := gather_at (founds s.length 0 s) [] s.length (fun x hx => by have := founds_at _ _ _ x hx; omega) (fun t h => nomatch h)
    exact ⟨fun l hl t ht => by have := this.1 l hl t ht; omega, this.2⟩
theorem parse_at {t : Tx} {e a : Int} (h : parse t = .inr (e, a)) : a ≤ t.length := by
  unfold parse at h
  cases hl : lex t with
  | bad e2 a2 => rw [hl] at h; cases h; exact lex_at.2 _ _ hl
  | ok l => rw [hl] at h; exact parseT_le (Int.natCast_nonneg _) (lex_at.1 l hl) h
/-! ### Apart from places -/
inductive RdLike {α : Type} : Rd α → Rd α → Prop
  | ok {x : α} {r q : List Tok} (h : Like r q) : RdLike (.ok x r) (.ok x q)
  | bad {e a b : Int} : RdLike (.bad e a) (.bad e b)
theorem like_tail {l m : List Tok} (h : Like l m) : Like l.tail m.tail := by
  cases h with
  | nil => exact .nil
  | cons _ h => exact h
theorem failR_like {α : Type} {en em : Int} {l m : List Tok} (h : Like l m) : RdLike (α := α) (failR en l) (failR em m) := by
  cases h <;> exact .bad
def RL (read read' : List Tok → Rd Sn) : Prop := ∀ l m, Like l m → RdLike (read l) (read' m)
theorem sevTail_like {w : Tx} {read read' : List Tok → Rd Sn} (h : RL read read') : ∀ (n : Nat) (acc : List Sn) (l m : List Tok), Like l m → RdLike (sevTail w read n acc l) (sevTail w read' n acc m)
  | 0, acc, l, m, hl => .ok hl
  | n + 1, acc, l, m, hl => by
    simp only [sevTail]
    rw [isT_like hl]
    split
    · have := h _ _ (like_tail hl)
      revert this
      cases read l.tail with
      | bad e a => cases read' m.tail with
        | bad e2 a2 => intro h2; cases h2; exact .bad
        | ok y q => intro h2; cases h2
      | ok x r =>
        intro h2
        cases hr : read' m.tail with
        | bad e a => rw [hr] at h2; cases h2
        | ok y q =>
          rw [hr] at h2
          cases h2
          rename_i h3
          exact sevTail_like h n _ _ _ h3
    · exact .ok hl
theorem sev_like {w : Tx} {op : Int} {read read' : List Tok → Rd Sn} (h : RL read read') : RL (sev w op read) (sev w op read') := fun l m hl => by
  unfold sev
  have := h _ _ hl
  revert this
  cases read l with
  | bad e a => cases read' m with
    | bad e2 a2 => intro h2; cases h2; exact .bad
    | ok y q => intro h2; cases h2
  | ok x r =>
    cases read' m with
    | bad e a => intro h2; cases h2
    | ok y q =>
      intro h2
      cases h2
      rename_i h3
      simp only
      rw [h3.length]
      have h4 := sevTail_like (w := w) h q.length [x] _ _ h3
      revert h4
      cases sevTail w read q.length [x] r with
      | bad e a => cases sevTail w read' q.length [x] q with
        | bad e2 a2 => intro h5; cases h5; exact .bad
        | ok z2 p2 => intro h5; cases h5
      | ok z p =>
        cases sevTail w read' q.length [x] q with
        | bad e a => intro h5; cases h5
        | ok z2 p2 => intro h5; cases h5; rename_i h6; exact .ok h6
theorem wordR_like {en em : Int} (op : Int) : RL (wordR en op) (wordR em op) := fun l m hl => by
  unfold wordR
  cases hl with
  | nil =>
    split
    · exact .bad
    · split
      · exact .bad
      · exact .ok .nil
  | cons h h2 =>
    rename_i a b l m
    simp only [takeT]
    rw [h.1]
    by_cases h3 : op = 3
    · rw [if_pos h3, if_pos h3]
      by_cases hk : b.kind = 2
      · rw [if_pos hk, if_pos hk]
        simp only
        rw [h.2.2]
        split
        · exact .bad
        · exact .ok h2
      · rw [if_neg hk, if_neg hk]; exact .bad
    · rw [if_neg h3, if_neg h3]
      split
      · by_cases hk : b.kind = 1
        · rw [if_pos hk, if_pos hk]
          simp only
          rw [h.2.1]
          exact .ok h2
        · rw [if_neg hk, if_neg hk]; exact .bad
      · exact .ok (.cons h h2)
theorem pOne_like (en em : Int) : ∀ f, RL (pOne en f) (pOne em f)
  | 0 => fun l m h => failR_like h
  | f + 1 => fun l m hl => by
    simp only [pOne]
    rw [isT_like hl]
    split
    · have := sev_like (w := kOr) (op := 9) (sev_like (w := kAnd) (op := 8) (pOne_like en em f)) _ _ (like_tail hl)
      revert this
      cases sev kOr 9 (sev kAnd 8 (pOne en f)) l.tail with
      | bad e a => cases sev kOr 9 (sev kAnd 8 (pOne em f)) m.tail with
        | bad e2 a2 => intro h2; cases h2; exact .bad
        | ok y q => intro h2; cases h2
      | ok x r =>
        cases sev kOr 9 (sev kAnd 8 (pOne em f)) m.tail with
        | bad e a => intro h2; cases h2
        | ok y q =>
          intro h2
          cases h2
          rename_i h3
          simp only
          rw [isT_like h3]
          split
          · exact .ok (like_tail h3)
          · exact failR_like h3
    · rw [show (fun p : Tx × Int => isT p.1 l) = fun p => isT p.1 m from funext fun p => isT_like hl]
      cases wordL.find? fun p => isT p.1 m with
      | none => exact failR_like hl
      | some p => exact wordR_like p.2 _ _ (like_tail hl)
theorem pStart_like (en em : Int) (f : Nat) : RL (pStart en f) (pStart em f) := sev_like (sev_like (pOne_like en em f))
/-- The same condition, or the same error at another place. -/
def PLike (a b : Sn ⊕ (Int × Int)) : Prop := match a, b with
  | .inl s, .inl t => s = t
  | .inr (e, _), .inr (f, _) => e = f
  | _, _ => False
theorem parseT_like {en em : Int} {l m : List Tok} (h : Like l m) : PLike (parseT en l) (parseT em m) := by
  unfold parseT
  rw [h.length]
  have := pStart_like en em (m.length + 1) _ _ h
  revert this
  cases pStart en (m.length + 1) l with
  | bad e a => intro h2; cases hr : pStart em (m.length + 1) m with
    | bad e2 a2 => rw [hr] at h2; cases h2; exact rfl
    | ok x r => rw [hr] at h2; cases h2
  | ok x r =>
    intro h2
    cases hr : pStart em (m.length + 1) m with
    | bad e2 a2 => rw [hr] at h2; cases h2
    | ok y q =>
      rw [hr] at h2
      cases h2
      rename_i h3
      simp only
      cases h3 with
      | nil =>
        simp only [if_true]
        cases validB x with
        | true => exact rfl
        | false => exact rfl
      | cons h4 h5 => exact rfl
/-! ### Parentheses -/
def Ex (x : List Tok) (read read' : List Tok → Rd Sn) : Prop := ∀ ts s r, read ts = .ok s r → read' (ts ++ x) = .ok s (r ++ x)
theorem isT_ex {w : Tx} {x : List Tok} (hx : isT w x = false) (ts : List Tok) : isT w (ts ++ x) = isT w ts := by
  cases ts with
  | nil => exact hx
  | cons t r => rfl
theorem sevTail_ex {w : Tx} {x : List Tok} {read read' : List Tok → Rd Sn} (hx : isT w x = false) (he : Ends read) (h : Ex x read read') : ∀ (n m : Nat) (acc : List Sn) (ts : List Tok) (l : List Sn) (r : List Tok), ts.length ≤ n → (ts ++ x).length ≤ m → sevTail w read n acc ts = .ok l r → sevTail w read' m acc (ts ++ x) = .ok l (r ++ x)
  | n, m, acc, ts, l, r, hn, hm, hs => by
    by_cases ht : isT w ts = true
    · obtain ⟨t, ts', rfl⟩ := isT_ne ht
      cases n with
      | zero => simp at hn
      | succ n =>
        cases m with
        | zero => simp at hm
        | succ m =>
          simp only [sevTail] at hs ⊢
          rw [isT_ex hx, ht, if_pos rfl] at *
          simp only [List.cons_append, List.tail_cons] at hs ⊢
          cases hr : read ts' with
          | bad e a => rw [hr] at hs; cases hs
          | ok y q =>
            rw [hr] at hs
            rw [h _ _ _ hr]
            simp only at hs ⊢
            have h1 := (he _ _ _ hr).length_le
            exact sevTail_ex hx he h n m _ q l r (by simp at hn; omega) (by simp at hm ⊢; omega) hs
    · have ht' : isT w ts = false := by simpa using ht
      rw [sevTail_no ht'] at hs
      cases hs
      rw [sevTail_no (show NoT w (ts ++ x) from (isT_ex hx ts).trans ht')]
theorem sev_ex {w : Tx} {op : Int} {x : List Tok} {read read' : List Tok → Rd Sn} (hx : isT w x = false) (he : Ends read) (h : Ex x read read') : Ex x (sev w op read) (sev w op read') := fun ts s r hs => by
  unfold sev at hs ⊢
  cases hr : read ts with
  | bad e a => rw [hr] at hs; cases hs
  | ok y q =>
    rw [hr] at hs
    rw [h _ _ _ hr]
    simp only at hs ⊢
    cases ht : sevTail w read q.length [y] q with
    | bad e a => rw [ht] at hs; cases hs
    | ok l r2 =>
      rw [ht] at hs
      cases hs
      rw [sevTail_ex hx he h q.length _ [y] q l _ (Nat.le_refl _) (Nat.le_refl _) ht]
theorem wordR_ex {en em : Int} {x : List Tok} (op : Int) : Ex x (wordR en op) (wordR em op) := fun ts s r hs => by
  unfold wordR at hs ⊢
  split at hs
  · cases ht : takeT en 2 ts with
    | bad e2 a2 => rw [ht] at hs; cases hs
    | ok t r2 =>
      rw [ht] at hs
      obtain ⟨rfl, hk⟩ := takeT_ends ht
      rename_i ho
      rw [if_pos ho]
      simp only [List.cons_append, takeT] at hs ⊢
      rw [if_pos hk]
      simp only
      split at hs
      · cases hs
      · rename_i hq
        cases hs
        rw [if_neg hq]
  · rename_i ho
    rw [if_neg ho]
    split at hs
    · rename_i hn
      rw [if_pos hn]
      cases ht : takeT en 1 ts with
      | bad e2 a2 => rw [ht] at hs; cases hs
      | ok t r2 =>
        rw [ht] at hs
        obtain ⟨rfl, hk⟩ := takeT_ends ht
        cases hs
        simp only [List.cons_append, takeT]
        rw [if_pos hk]
    · rename_i hn
      rw [if_neg hn]
      cases hs
      rfl
theorem pOne_ex {en em : Int} {x : List Tok} (h1 : isT kAnd x = false) (h2 : isT kOr x = false) : ∀ f g, f ≤ g → Ex x (pOne en f) (pOne em g)
  | 0, g, hg => fun ts s r hs => nomatch hs
  | f + 1, 0, hg => by omega
  | f + 1, g + 1, hg => fun ts s r hs => by
    have ih : Ex x (pOne en f) (pOne em g) := pOne_ex h1 h2 f g (by omega)
    have hne : ts ≠ [] := by
      rintro rfl
      simp only [pOne, isT, Bool.false_eq_true, if_false] at hs
      cases hs
    obtain ⟨t, ts', rfl⟩ := List.exists_cons_of_ne_nil hne
    simp only [pOne, List.cons_append] at hs ⊢
    have hi : ∀ w, isT w (t :: (ts' ++ x)) = isT w (t :: ts') := fun w => rfl
    rw [hi]
    split at hs
    · rename_i ho
      rw [if_pos ho]
      cases hq : sev kOr 9 (sev kAnd 8 (pOne en f)) (t :: ts').tail with
      | bad e a => rw [hq] at hs; cases hs
      | ok y q =>
        rw [hq] at hs
        rw [List.tail_cons] at hq ⊢
        rw [sev_ex h2 (pAll_ends en f) (sev_ex h1 (pOne_ends en f) ih) _ _ _ hq]
        simp only at hs ⊢
        split at hs
        · rename_i hc
          cases hs
          obtain ⟨u, q', rfl⟩ := isT_ne hc
          rw [List.cons_append, show isT kShut (u :: (q' ++ x)) = isT kShut (u :: q') from rfl, hc, if_pos rfl]
          rfl
        · cases hs
    · rename_i ho
      rw [if_neg ho]
      rw [show (fun p : Tx × Int => isT p.1 (t :: (ts' ++ x))) = fun p => isT p.1 (t :: ts') from rfl]
      cases hf : wordL.find? fun p => isT p.1 (t :: ts') with
      | none => rw [hf] at hs; cases hs
      | some p =>
        rw [hf] at hs
        simp only [List.tail_cons] at hs ⊢
        exact wordR_ex p.2 _ _ _ hs
theorem pOne_open {en : Int} (f : Nat) {t : Tok} {ts : List Tok} (h : t.like (tp 40)) : pOne en (f + 1) (t :: ts) = match sev kOr 9 (sev kAnd 8 (pOne en f)) ts with | .bad e a => .bad e a | .ok s r => if isT kShut r then .ok s r.tail else failR en r := by
  rw [pOne, isT_p h, if_pos (by decide), List.tail_cons]
  try (cases sev kOr 9 (sev kAnd 8 (pOne en f)) ts <;> rfl)
theorem parseT_paren {en em : Int} {l : List Tok} {s : Sn} {t u : Tok} (ht : t.like (tp 40)) (hu : u.like (tp 41)) (h : parseT en l = .inl s) : parseT em (t :: (l ++ [u])) = .inl s := by
  unfold parseT at h ⊢
  cases hr : pStart en (l.length + 1) l with
  | bad e a => rw [hr] at h; cases h
  | ok y r =>
    rw [hr] at h
    simp only at h
    split at h
    · rename_i hr0
      subst hr0
      split at h
      · rename_i hv
        cases h
        have h1 : isT kAnd [u] = false := by rw [isT_p hu]; decide
        have h2 : isT kOr [u] = false := by rw [isT_p hu]; decide
        have hlen : (t :: (l ++ [u])).length + 1 = l.length + 2 + 1 := by simp
        have he := sev_ex (op := 9) h2 (pAll_ends en (l.length + 1)) (sev_ex (op := 8) h1 (pOne_ends en (l.length + 1)) (pOne_ex (em := em) h1 h2 (l.length + 1) (l.length + 2) (by omega))) _ _ _ hr
        have hone : pOne em (l.length + 2 + 1) (t :: (l ++ [u])) = .ok s [] := by
          rw [pOne_open _ ht, he]
          simp only [List.nil_append]
          rw [isT_p hu, if_pos (by decide)]
          rfl
        have hst : pStart em (l.length + 2 + 1) (t :: (l ++ [u])) = .ok s [] := sev_one (sev_one hone rfl) rfl
        rw [hlen, hst]
        simp only [if_true]
        rw [hv, if_pos rfl]
      · cases h
    · cases h
/-! ### Tokens with line feeds -/
def feed (l : List Tok) : Tx := l.flatMap fun t => t.text ++ [10]
theorem feed_cons (t : Tok) (l : List Tok) : feed (t :: l) = t.text ++ 10 :: feed l := by simp [feed]
theorem Lx.feed {a : Nat} {s : List UInt8} {l : List Tok} {r : Option (Nat × Nat)} (h : Lx a s l r) : ∀ b g l2, Lx (b + (feed l).length) g l2 none → ∃ m, Lx b (feed l ++ g) (m ++ l2) none ∧ Like l m := by
  induction h with
  | nil h => exact fun b g l2 hx => ⟨[], hx, .nil⟩
  | bad => exact fun b g l2 hx => ⟨[], hx, .nil⟩
  | tok hs hne he hx ih =>
    rename_i a s s' l r
    intro b g l2 hg
    have hsk : skip false s' = s' := by rw [← hs]; exact skip_skip false s
    have htl : ((found (a + (s.length - s'.length)) s').tok).text = s'.take (one s').len := rfl
    have hle := one_len_le s' hne
    rw [feed_cons, htl] at hg ⊢
    obtain ⟨m, hm1, hm2⟩ := ih (b + (one s').len + 1) g l2 (hg.cast (by simp; omega) rfl)
    have h10 : Lx (b + (one s').len) (10 :: (Go.Sta.feed l ++ g)) (m ++ l2) none := Lx.congr (s1 := Go.Sta.feed l ++ g) (a1 := b + (one s').len + 1) (by simp only [skip]; rw [if_pos (by decide)]) (by simp only [List.length_cons]; omega) hm1
    have := Lx.head hne he hsk (g := 10 :: (Go.Sta.feed l ++ g)) ⟨10, _, rfl, .inl (by decide)⟩ b h10
    refine ⟨(found b s').tok :: m, ?_, .cons ⟨rfl, rfl, rfl⟩ hm2⟩
    simpa using this
theorem feed_length {a : Nat} {s : List UInt8} {l : List Tok} {r : Option (Nat × Nat)} (h : Lx a s l r) : (feed l).length ≤ 2 * s.length := by
  have := write_length h
  have e : ∀ l : List Tok, (feed l).length = (write l).length := by
    intro l
    induction l with
    | nil => rfl
    | cons t l ih => rw [feed_cons, write_cons]; simp [ih]
  rw [e]; exact this
/-- The law of gaps, in plain words. -/
theorem gaps_plain {text : Tx} (hl : text.length ≤ 2000) {l : List Tok} (h : lex text = .ok l) : PLike (parse text) (parse (feed l)) ∧ ∀ s, parse text = .inl s → parse (40 :: (feed l ++ [41])) = .inl s := by
  obtain ⟨l0, hx, e⟩ : ∃ l0, Lx 0 text l0 none ∧ lex text = .ok l0 := by
    rcases lex_cases text (by omega) with h1 | ⟨l1, e, p, -, h2⟩
    · exact h1
    · rw [h] at h2; cases h2
  rw [h] at e
  cases e
  have hfl := feed_length hx
  have hll := hx.length
  obtain ⟨m, hm1, hm2⟩ := Lx.feed hx 0 [] [] (.nil rfl)
  rw [List.append_nil, List.append_nil] at hm1
  have hmlen := hm2.length
  have e1 : lex (feed l) = .ok m := lx_lex hm1 (by omega) (by omega)
  refine ⟨?_, fun s hs => ?_⟩
  · unfold parse
    rw [h, e1]
    exact parseT_like hm2
  · unfold parse at hs ⊢
    rw [h] at hs
    simp only at hs
    obtain ⟨u, hu1, hu2⟩ := lx_sym (c := 41) (by decide) (1 + (feed l).length) [] [] (.nil rfl)
    obtain ⟨m2, hm3, hm4⟩ := Lx.feed hx 1 [41] [u] hu1
    obtain ⟨t, ht1, ht2⟩ := lx_sym (c := 40) (by decide) 0 _ _ hm3
    have hm2l := hm4.length
    have e2 : lex (40 :: (feed l ++ [41])) = .ok (t :: (m2 ++ [u])) := lx_lex ht1 (by simp; omega) (by simp; omega)
    rw [e2]
    have h3 : parseT text.length m2 = .inl s := by
      have := parseT_like (en := text.length) (em := text.length) hm4
      rw [hs] at this
      cases hp : parseT text.length m2 with
      | inl z => rw [hp] at this; rw [show s = z from this]
      | inr z => rw [hp] at this; exact this.elim
    exact parseT_paren ht2 hu2 h3
end Go.Sta
