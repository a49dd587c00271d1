/-
  Tokens of a text, in plain Lean: no program in sight.
-/
set_option linter.unusedVariables false
namespace Go.Lexs

def isLetter (c : UInt8) : Bool := (97 ≤ c && c ≤ 122) || (65 ≤ c && c ≤ 90)
def isDigit (c : UInt8) : Bool := 48 ≤ c && c ≤ 57

/-- The class of a byte. -/
def cls (c : UInt8) : Nat :=
  if isLetter c then 3 else if isDigit c then 4 else if c = 32 ∨ c = 9 ∨ c = 10 then 1 else if c = 35 then 2 else if c = 95 then 5
  else if c ∈ [59, 44, 46, 58, 40, 41, 91, 93, 123, 125, 61] then 6 else if c = 60 ∨ c = 62 then 7 else if c = 33 then 8 else 0

def isWord (c : UInt8) : Bool := cls c == 3 || cls c == 4 || cls c == 5

/-- The class of what stands at the head. -/
def hd (s : List UInt8) : Nat := match s with
  | [] => 0
  | c :: _ => cls c

/-- What is left behind gaps; true: within a comment. -/
def skip : Bool → List UInt8 → List UInt8
  | _, [] => []
  | true, c :: s => if c = 10 then skip false s else skip true s
  | false, c :: s => if cls c = 1 then skip false s else if cls c = 2 then skip true s else c :: s

def spanLen (p : UInt8 → Bool) : List UInt8 → Nat
  | [] => 0
  | c :: s => if p c then spanLen p s + 1 else 0

def value (s : List UInt8) : Nat := s.foldl (fun n c => 10 * n + (c.toNat - 48)) 0

/-- One token at the head: its kind, length, number, error. -/
structure One where
  kind : Nat
  len : Nat
  num : Nat
  err : Nat

def one (s : List UInt8) : One :=
  match hd s with
  | 3 => let k := spanLen isWord s; ⟨1, k, 0, if 24 < k then 2 else 0⟩
  | 4 => let k := spanLen isDigit s
         if 7 < k ∨ hd (s.drop k) = 3 ∨ hd (s.drop k) = 5 then ⟨2, k, 0, 4⟩ else ⟨2, k, value (s.take k), 0⟩
  | 6 => ⟨3, 1, 0, 0⟩
  | 7 => ⟨3, if s[1]? = some 61 then 2 else 1, 0, 0⟩
  | 8 => if s[1]? = some 61 then ⟨3, 2, 0, 0⟩ else ⟨3, 1, 0, 3⟩
  | _ => ⟨0, 0, 0, 3⟩

structure Tok where
  kind : Nat
  text : List UInt8
  num : Nat
  pos : Nat
  deriving DecidableEq

structure Found where
  tok : Tok
  err : Nat

def found (at_ : Nat) (s : List UInt8) : Found := ⟨⟨(one s).kind, s.take (one s).len, (one s).num, at_⟩, (one s).err⟩

/-- What is yielded from a place on. -/
def founds : Nat → Nat → List UInt8 → List Found
  | 0, _, _ => []
  | f + 1, at_, s =>
    match skip false s with
    | [] => []
    | c :: s' =>
      let p := at_ + (s.length - (c :: s').length)
      found p (c :: s') :: if (one (c :: s')).err = 0 then founds f (p + (one (c :: s')).len) ((c :: s').drop (one (c :: s')).len) else []

/-- The answer of Lex: tokens; or an error and its offset. -/
inductive Res where
  | ok (l : List Tok)
  | bad (e : Nat) (off : Int)

def gather : List Tok → List Found → Res
  | acc, [] => .ok acc
  | acc, f :: fs => if f.err ≠ 0 then .bad f.err f.tok.pos else if acc.length = 5000 then .bad 2 f.tok.pos else gather (acc ++ [f.tok]) fs

def lex (s : List UInt8) : Res := if 20000 < s.length then .bad 2 (-1) else gather [] (founds s.length 0 s)

/-! ### First facts -/

theorem skip_length : ∀ (b : Bool) (s : List UInt8), (skip b s).length ≤ s.length
  | _, [] => by simp [skip]
  | true, c :: s => by
    simp only [skip]; split
    · exact Nat.le_trans (skip_length false s) (by simp)
    · exact Nat.le_trans (skip_length true s) (by simp)
  | false, c :: s => by
    simp only [skip]; split
    · exact Nat.le_trans (skip_length false s) (by simp)
    · split
      · exact Nat.le_trans (skip_length true s) (by simp)
      · exact Nat.le_refl _

theorem skip_suffix : ∀ (b : Bool) (s : List UInt8), skip b s <:+ s
  | _, [] => by simp [skip]
  | true, c :: s => by
    simp only [skip]; split
    · exact (skip_suffix false s).trans (List.suffix_cons c s)
    · exact (skip_suffix true s).trans (List.suffix_cons c s)
  | false, c :: s => by
    simp only [skip]; split
    · exact (skip_suffix false s).trans (List.suffix_cons c s)
    · split
      · exact (skip_suffix true s).trans (List.suffix_cons c s)
      · exact List.suffix_rfl

theorem skip_head {s s' : List UInt8} {c : UInt8} : ∀ (b : Bool) (s : List UInt8), skip b s = c :: s' → cls c ≠ 1 ∧ cls c ≠ 2
  | _, [], h => by simp [skip] at h
  | true, d :: s, h => by
    simp only [skip] at h; split at h
    · exact skip_head (s := s) false s h
    · exact skip_head (s := s) true s h
  | false, d :: s, h => by
    simp only [skip] at h; split at h
    · exact skip_head (s := s) false s h
    · rename_i h1
      split at h
      · exact skip_head (s := s) true s h
      · rename_i h2
        simp only [List.cons.injEq] at h
        obtain ⟨rfl, rfl⟩ := h
        exact ⟨h1, h2⟩

/-- Two places from which the same is left. -/
theorem founds_congr {f a1 a2 : Nat} {s1 s2 : List UInt8} (h : skip false s1 = skip false s2) (ha : a1 + s1.length = a2 + s2.length) (h1 : s1.length ≤ f) (h2 : s2.length ≤ f) : founds f a1 s1 = founds f a2 s2 := by
  cases f with
  | zero => rfl
  | succ f =>
    simp only [founds]
    rw [h]
    have hl1 := skip_length false s1
    have hl2 := skip_length false s2
    rw [h] at hl1
    cases hs : skip false s2 with
    | nil => rfl
    | cons c s' =>
      rw [hs] at hl1 hl2
      have : a1 + (s1.length - (c :: s').length) = a2 + (s2.length - (c :: s').length) := by omega
      simp only [this]

theorem spanLen_le (p : UInt8 → Bool) : ∀ (s : List UInt8), spanLen p s ≤ s.length
  | [] => by simp [spanLen]
  | c :: s => by
    simp only [spanLen]; split
    · have := spanLen_le p s; simp; omega
    · simp

theorem one_len_le (s : List UInt8) (h : s ≠ []) : (one s).len ≤ s.length := by
  have h1 := spanLen_le isWord s
  have h2 := spanLen_le isDigit s
  have h3 : 0 < s.length := List.length_pos_iff.2 h
  have h4 : s[1]? = some 61 → 2 ≤ s.length := fun hh => by
    have := (List.getElem?_eq_some_iff.1 hh).1; omega
  unfold one
  split
  · exact h1
  · simp only; split <;> exact h2
  · exact h3
  · simp only; split
    · rename_i hh; exact h4 hh
    · exact h3
  · split
    · rename_i hh; exact h4 hh
    · exact h3
  · exact Nat.zero_le _

/-- A token without an error has a length. -/
theorem one_len_pos (s : List UInt8) (h : (one s).err = 0) : 0 < (one s).len := by
  cases s with
  | nil => simp [one, hd] at h
  | cons c s =>
    unfold one at h ⊢
    split
    · rename_i hh
      simp only [hd] at hh
      have : isWord c = true := by simp [isWord, hh]
      simp [spanLen, this]
    · rename_i hh
      simp only [hd] at hh
      have : isDigit c = true := by
        unfold cls at hh
        split at hh
        · cases hh
        · split at hh
          · assumption
          · repeat (split at hh; · cases hh)
            cases hh
      have hp : 0 < spanLen isDigit (c :: s) := by simp [spanLen, this]
      simp only; split <;> exact hp
    · decide
    · simp only; split <;> decide
    · split <;> simp
    · rename_i h3 h4 h5 h6 h7
      split at h <;> simp_all

/-- More fuel changes nothing. -/
theorem founds_fuel : ∀ (f g a : Nat) (s : List UInt8), s.length ≤ f → s.length ≤ g → founds f a s = founds g a s
  | 0, g, a, s, h, _ => by
    have : s = [] := List.eq_nil_of_length_eq_zero (by omega)
    subst this
    cases g <;> simp [founds, skip]
  | f + 1, 0, a, s, _, h => by
    have : s = [] := List.eq_nil_of_length_eq_zero (by omega)
    subst this
    simp [founds, skip]
  | f + 1, g + 1, a, s, h1, h2 => by
    simp only [founds]
    have hl := skip_length false s
    cases hs : skip false s with
    | nil => rfl
    | cons c s' =>
      rw [hs] at hl
      simp only
      congr 1
      split
      · rename_i he
        have hp := one_len_pos (c :: s') he
        refine founds_fuel f g _ _ ?_ ?_ <;> (rw [List.length_drop]; omega)
      · rfl
end Go.Lexs

/-
  Laws of tokens, in plain Lean: no program in sight.
-/
set_option linter.unusedVariables false
set_option linter.unusedSimpArgs false
set_option linter.unnecessarySimpa false
set_option maxRecDepth 10000
namespace Go.Lexs

/-- Tokens from a place on, and the error that ends them, if any. -/
inductive Lx : Nat → List UInt8 → List Tok → Option (Nat × Nat) → Prop
  | nil {a s} : skip false s = [] → Lx a s [] none
  | bad {a s s'} : skip false s = s' → s' ≠ [] → (one s').err ≠ 0 → Lx a s [] (some ((one s').err, a + (s.length - s'.length)))
  | tok {a s s' l r} : skip false s = s' → s' ≠ [] → (one s').err = 0 → Lx (a + (s.length - s'.length) + (one s').len) (s'.drop (one s').len) l r →
      Lx a s ((found (a + (s.length - s'.length)) s').tok :: l) r

theorem Lx.exists : ∀ (n : Nat) (a : Nat) (s : List UInt8), s.length ≤ n → ∃ l r, Lx a s l r
  | n, a, s, hn => by
    cases hs : skip false s with
    | nil => exact ⟨_, _, .nil hs⟩
    | cons c s' =>
      by_cases he : (one (c :: s')).err = 0
      · have hl := skip_length false s
        rw [hs] at hl
        have hp := one_len_pos _ he
        cases n with
        | zero => simp at hl; omega
        | succ n =>
          obtain ⟨l, r, h⟩ := Lx.exists n (a + (s.length - (c :: s').length) + (one (c :: s')).len) ((c :: s').drop (one (c :: s')).len) (by rw [List.length_drop]; omega)
          exact ⟨_, _, .tok hs (by simp) he h⟩
      · exact ⟨_, _, .bad hs (by simp) he⟩

theorem Lx.founds {a : Nat} {s : List UInt8} {l : List Tok} {r : Option (Nat × Nat)} (h : Lx a s l r) : ∀ f, s.length ≤ f →
    ∃ t, founds f a s = l.map (fun t => ⟨t, 0⟩) ++ t ∧ (match r with | none => t = [] | some (e, p) => e ≠ 0 ∧ ∃ k, t = [⟨k, e⟩] ∧ k.pos = p) := by
  induction h with
  | @nil a s h =>
    intro f hf
    refine ⟨[], ?_, rfl⟩
    cases f with
    | zero => rfl
    | succ f => simp only [Lexs.founds, h]; rfl
  | @bad a s s' h hne he =>
    intro f hf
    have hl := skip_length false s
    cases s' with
    | nil => exact absurd rfl hne
    | cons c s' =>
      rw [h] at hl
      cases f with
      | zero => simp at hl; omega
      | succ f =>
        refine ⟨[found (a + (s.length - (c :: s').length)) (c :: s')], ?_, he, _, rfl, rfl⟩
        simp only [Lexs.founds, h, he, if_false]
        rfl
  | @tok a s s' l r h hne he h' ih =>
    intro f hf
    have hl := skip_length false s
    have hp := one_len_pos _ he
    cases s' with
    | nil => exact absurd rfl hne
    | cons c s' =>
      rw [h] at hl
      cases f with
      | zero => simp at hl; omega
      | succ f =>
        obtain ⟨t, h1, h2⟩ := ih f (by rw [List.length_drop]; omega)
        refine ⟨t, ?_, h2⟩
        simp only [Lexs.founds, h, he, if_true, h1, List.map_cons, List.cons_append]
        congr 1
        unfold found
        rw [he]

theorem Lx.length {a : Nat} {s : List UInt8} {l : List Tok} {r : Option (Nat × Nat)} (h : Lx a s l r) : l.length ≤ s.length := by
  induction h with
  | nil h => exact Nat.zero_le _
  | bad h hne he => exact Nat.zero_le _
  | @tok a s s' l r h hne he h' ih =>
    have hl := skip_length false s
    have hp := one_len_pos _ he
    have hle := one_len_le s' hne
    rw [h] at hl
    rw [List.length_drop] at ih
    simp only [List.length_cons]
    omega

theorem gather_map : ∀ (l : List Tok) (acc : List Tok) (t : List Found), acc.length + l.length ≤ 5000 → gather acc (l.map (fun t => ⟨t, 0⟩) ++ t) = gather (acc ++ l) t
  | [], acc, t, _ => by simp
  | x :: l, acc, t, h => by
    simp only [List.length_cons] at h
    simp only [List.map_cons, List.cons_append, gather, ne_eq, not_true_eq_false, if_false]
    rw [if_neg (by omega), gather_map l (acc ++ [x]) t (by simp; omega)]
    simp

theorem Lx.lex {s : List UInt8} {l : List Tok} {r : Option (Nat × Nat)} (h : Lx 0 s l r) (hl : s.length ≤ 5000) :
    Lexs.lex s = match r with | none => .ok l | some (e, p) => .bad e (p : Int) := by
  have hlen := h.length
  obtain ⟨t, h1, h2⟩ := h.founds s.length (Nat.le_refl _)
  unfold Lexs.lex
  rw [if_neg (by omega), h1, gather_map l [] t (by simp; omega)]
  cases r with
  | none => simp only at h2; subst h2; rfl
  | some ep =>
    obtain ⟨e, p⟩ := ep
    obtain ⟨he, k, rfl, hp⟩ := h2
    simp only [gather, he, ne_eq, not_false_eq_true, if_true, hp]

/-- Either way. -/
theorem lex_cases (s : List UInt8) (hl : s.length ≤ 5000) : (∃ l, Lx 0 s l none ∧ lex s = .ok l) ∨ ∃ l e p, Lx 0 s l (some (e, p)) ∧ lex s = .bad e (p : Int) := by
  obtain ⟨l, r, h⟩ := Lx.exists s.length 0 s (Nat.le_refl _)
  cases r with
  | none => exact .inl ⟨l, h, h.lex hl⟩
  | some ep => exact .inr ⟨l, ep.1, ep.2, h, h.lex hl⟩

theorem Lx.err_ne {a : Nat} {s : List UInt8} {l : List Tok} {e p : Nat} (h : Lx a s l (some (e, p))) : e ≠ 0 := by
  obtain ⟨t, h1, h2, -⟩ := h.founds s.length (Nat.le_refl _)
  exact h2

/-! ### Gaps -/

theorem skip_app_ne : ∀ (b : Bool) (s t : List UInt8), skip b s ≠ [] → skip b (s ++ t) = skip b s ++ t
  | b, [], t, h => by simp [skip] at h
  | true, c :: s, t, h => by
    simp only [List.cons_append, skip] at h ⊢
    split
    · rename_i hc; rw [if_pos hc] at h; exact skip_app_ne false s t h
    · rename_i hc; rw [if_neg hc] at h; exact skip_app_ne true s t h
  | false, c :: s, t, h => by
    simp only [List.cons_append, skip] at h ⊢
    split
    · rename_i hc; rw [if_pos hc] at h; exact skip_app_ne false s t h
    · rename_i hc
      rw [if_neg hc] at h
      split
      · rename_i hc2; rw [if_pos hc2] at h; exact skip_app_ne true s t h
      · rfl

theorem skip_app_nil : ∀ (b : Bool) (s t : List UInt8), skip b s = [] → skip b (s ++ 10 :: t) = skip false t
  | true, [], t, h => by simp [skip]
  | false, [], t, h => by simp [skip, show cls 10 = 1 from rfl]
  | true, c :: s, t, h => by
    simp only [List.cons_append, skip] at h ⊢
    split
    · rename_i hc; rw [if_pos hc] at h; exact skip_app_nil false s t h
    · rename_i hc; rw [if_neg hc] at h; exact skip_app_nil true s t h
  | false, c :: s, t, h => by
    simp only [List.cons_append, skip] at h ⊢
    split
    · rename_i hc; rw [if_pos hc] at h; exact skip_app_nil false s t h
    · rename_i hc
      rw [if_neg hc] at h
      split
      · rename_i hc2; rw [if_pos hc2] at h; exact skip_app_nil true s t h
      · rename_i hc2; rw [if_neg hc2] at h; cases h

/-- What is skipped. -/
theorem skip_pre : ∀ (b : Bool) (s : List UInt8), ∃ g, s = g ++ skip b s ∧ skip b g = []
  | b, [] => ⟨[], by simp [skip], by simp [skip]⟩
  | true, c :: s => by
    simp only [skip]
    split
    · rename_i hc
      obtain ⟨g, h1, h2⟩ := skip_pre false s
      exact ⟨c :: g, by rw [List.cons_append, ← h1], by simp only [skip, if_pos hc]; exact h2⟩
    · rename_i hc
      obtain ⟨g, h1, h2⟩ := skip_pre true s
      exact ⟨c :: g, by rw [List.cons_append, ← h1], by simp only [skip, if_neg hc]; exact h2⟩
  | false, c :: s => by
    simp only [skip]
    split
    · rename_i hc
      obtain ⟨g, h1, h2⟩ := skip_pre false s
      exact ⟨c :: g, by rw [List.cons_append, ← h1], by simp only [skip, if_pos hc]; exact h2⟩
    · rename_i hc
      split
      · rename_i hc2
        obtain ⟨g, h1, h2⟩ := skip_pre true s
        exact ⟨c :: g, by rw [List.cons_append, ← h1], by simp only [skip, if_neg hc, if_pos hc2]; exact h2⟩
      · exact ⟨[], rfl, rfl⟩

theorem skip_of_head {c : UInt8} {s : List UInt8} (h1 : cls c ≠ 1) (h2 : cls c ≠ 2) : skip false (c :: s) = c :: s := by
  simp only [skip, if_neg h1, if_neg h2]

theorem skip_head' {b : Bool} {s s' : List UInt8} {c : UInt8} (h : skip b s = c :: s') : cls c ≠ 1 ∧ cls c ≠ 2 := skip_head (s := s) b s h

theorem skip_skip (b : Bool) (s : List UInt8) : skip false (skip b s) = skip b s := by
  cases h : skip b s with
  | nil => rfl
  | cons c s' =>
    obtain ⟨h1, h2⟩ := skip_head' h
    exact skip_of_head h1 h2

theorem skip_take {s : List UInt8} {s' : List UInt8} (h : skip false s = s') : skip false (s.take (s.length - s'.length)) = [] := by
  obtain ⟨g, h1, h2⟩ := skip_pre false s
  have : s.take (s.length - s'.length) = g := by
    rw [← h]
    conv => lhs; rw [h1]
    have : (g ++ skip false s).length - (skip false (g ++ skip false s)).length = g.length := by
      rw [← h1]
      have := congrArg List.length h1
      simp at this
      omega
    rw [this]; simp
  rw [this]; exact h2

theorem skip_drop {s : List UInt8} {s' : List UInt8} (h : skip false s = s') : s.drop (s.length - s'.length) = s' := by
  obtain ⟨g, h1, h2⟩ := skip_pre false s
  have hl := congrArg List.length h1
  rw [List.length_append, h] at hl
  have : s.length - s'.length = g.length := by omega
  rw [this]
  conv => lhs; rw [h1]
  simp [h]

/-- What is skipped does not depend on what follows. -/
theorem skip_swap' {c : UInt8} (hc1 : cls c ≠ 1) (hc2 : cls c ≠ 2) : ∀ (g : List UInt8) (b : Bool) (t1 t2 : List UInt8), skip b (g ++ c :: t1) = c :: t1 → (g = [] → b = false) → skip b (g ++ c :: t2) = c :: t2
  | [], b, t1, t2, _, hb => by
    rw [hb rfl]
    exact skip_of_head hc1 hc2
  | d :: g, b, t1, t2, h1, _ => by
    have hlen : ∀ (b' : Bool), skip b' (g ++ c :: t1) = c :: t1 → (g = [] → b' = false) := by
      intro b' hh hg0
      subst hg0
      cases b' with
      | false => rfl
      | true =>
        exfalso
        simp only [List.nil_append, skip] at hh
        have l1 := skip_length false t1
        have l2 := skip_length true t1
        split at hh
        · rw [hh] at l1; simp at l1; omega
        · rw [hh] at l2; simp at l2; omega
    cases b with
    | true =>
      simp only [List.cons_append, skip] at h1 ⊢
      split
      · rename_i hc; rw [if_pos hc] at h1; exact skip_swap' hc1 hc2 g false t1 t2 h1 (hlen _ h1)
      · rename_i hc; rw [if_neg hc] at h1; exact skip_swap' hc1 hc2 g true t1 t2 h1 (hlen _ h1)
    | false =>
      simp only [List.cons_append, skip] at h1 ⊢
      split
      · rename_i hc; rw [if_pos hc] at h1; exact skip_swap' hc1 hc2 g false t1 t2 h1 (hlen _ h1)
      · rename_i hc
        rw [if_neg hc] at h1
        split
        · rename_i hc3; rw [if_pos hc3] at h1; exact skip_swap' hc1 hc2 g true t1 t2 h1 (hlen _ h1)
        · rename_i hc3
          rw [if_neg hc3] at h1
          exfalso
          have := congrArg List.length h1
          simp at this
          omega

theorem skip_swap {c : UInt8} (g t1 t2 : List UInt8) (hc1 : cls c ≠ 1) (hc2 : cls c ≠ 2) (h : skip false (g ++ c :: t1) = c :: t1) : skip false (g ++ c :: t2) = c :: t2 := skip_swap' hc1 hc2 g false t1 t2 h fun _ => rfl

/-! ### One token, with more or less behind it -/

theorem span_app (p : UInt8 → Bool) : ∀ (s g : List UInt8), (∀ c g', g = c :: g' → p c = false) → spanLen p (s ++ g) = spanLen p s
  | [], [], h => rfl
  | [], c :: g, h => by simp [spanLen, h c g rfl]
  | c :: s, g, h => by
    simp only [List.cons_append, spanLen]
    rw [span_app p s g h]

theorem span_take (p : UInt8 → Bool) : ∀ (s : List UInt8) (m : Nat), spanLen p s ≤ m → spanLen p (s.take m) = spanLen p s
  | [], m, h => by simp
  | c :: s, 0, h => by
    simp only [spanLen] at h
    simp only [List.take_zero, spanLen]
    split at h
    · omega
    · rename_i hc; simp [hc]
  | c :: s, m + 1, h => by
    simp only [List.take_succ_cons, spanLen] at h ⊢
    by_cases hc : p c = true
    · rw [if_pos hc] at h ⊢
      rw [if_pos hc, span_take p s m (by omega)]
    · rw [if_neg hc, if_neg hc]

def gapHead (g : List UInt8) : Prop := ∃ c g', g = c :: g' ∧ (cls c = 1 ∨ cls c = 2)

theorem gapHead_word {g : List UInt8} (h : gapHead g) : ∀ c g', g = c :: g' → isWord c = false := by
  obtain ⟨d, g2, rfl, hd⟩ := h
  intro c g' he
  simp only [List.cons.injEq] at he
  obtain ⟨rfl, rfl⟩ := he
  rcases hd with h | h <;> simp [isWord, h]

theorem isWord_digit {c : UInt8} (h : isWord c = false) : isDigit c = false := by
  cases hd : isDigit c
  · rfl
  · exfalso
    have : cls c = 3 ∨ cls c = 4 := by
      unfold cls
      split
      · exact .inl rfl
      · simp [hd]
    rcases this with h' | h' <;> simp [isWord, h'] at h

theorem gapHead_ne {g : List UInt8} (h : gapHead g) : g[0]? ≠ some 61 := by
  obtain ⟨d, g2, rfl, hd⟩ := h
  intro he
  simp at he
  subst he
  rcases hd with h | h <;> cases h

theorem one_app {s g : List UInt8} (hs : s ≠ []) (hg : gapHead g) : one (s ++ g) = one s := by
  cases s with
  | nil => exact absurd rfl hs
  | cons c s =>
    have hw := gapHead_word hg
    have h1 : spanLen isWord (c :: s ++ g) = spanLen isWord (c :: s) := span_app _ _ _ hw
    have h2 : spanLen isDigit (c :: s ++ g) = spanLen isDigit (c :: s) := span_app _ _ _ fun c g' h => isWord_digit (hw c g' h)
    have h3 : hd (c :: s ++ g) = hd (c :: s) := rfl
    have h4 : (c :: s ++ g)[1]? = some 61 ↔ (c :: s)[1]? = some 61 := by
      cases s with
      | nil =>
        have := gapHead_ne hg
        simpa using this
      | cons d s => simp
    have hle := spanLen_le isDigit (c :: s)
    have h5 : ∀ x : Nat, x = 3 ∨ x = 5 → (hd ((c :: s ++ g).drop (spanLen isDigit (c :: s))) = x ↔ hd ((c :: s).drop (spanLen isDigit (c :: s))) = x) := by
      intro x hx
      rw [List.drop_append_of_le_length hle]
      cases hd' : (c :: s).drop (spanLen isDigit (c :: s)) with
      | nil =>
        obtain ⟨d, g2, rfl, hh⟩ := hg
        simp only [List.nil_append, hd]
        omega
      | cons d s' => simp [hd]
    have h6 : (c :: s ++ g).take (spanLen isDigit (c :: s)) = (c :: s).take (spanLen isDigit (c :: s)) := List.take_append_of_le_length hle
    unfold one
    rw [h3]
    simp only [h1, h2, h4, h5 3 (.inl rfl), h5 5 (.inr rfl), h6]

theorem hd_take {s : List UInt8} {m : Nat} (h : 0 < m) : hd (s.take m) = hd s := by
  cases s with
  | nil => simp
  | cons c s => cases m with
    | zero => omega
    | succ m => rfl

theorem one_take {s : List UInt8} {m : Nat} (he : (one s).err = 0) (hm : (one s).len ≤ m) : one (s.take m) = one s := by
  have hp := one_len_pos s he
  have h3 : hd (s.take m) = hd s := hd_take (by omega)
  unfold one at hm he hp ⊢
  rw [h3]
  split at hm
  · rename_i hh
    simp only [hh] at hm he hp ⊢
    rw [span_take _ _ _ hm]
  · rename_i hh
    simp only [hh] at hm he hp ⊢
    split at he
    · cases he
    · rename_i hn
      rw [if_neg hn] at hm
      simp only at hm
      rw [span_take _ _ _ hm]
      rw [if_neg hn, if_neg, List.take_take, Nat.min_eq_left hm]
      intro hc
      apply hn
      rcases hc with hc | hc
      · exact .inl hc
      · refine .inr ?_
        rw [List.drop_take] at hc
        by_cases h0 : 0 < m - spanLen isDigit s
        · rw [hd_take h0] at hc; exact hc
        · rw [show m - spanLen isDigit s = 0 by omega] at hc
          simp [hd] at hc
  · rename_i hh
    simp only [hh]
  · rename_i hh
    simp only [hh] at hm he hp ⊢
    by_cases h1 : s[1]? = some 61
    · rw [if_pos h1] at hm ⊢
      rw [if_pos (by rw [List.getElem?_take, if_pos (by omega)]; exact h1)]
    · rw [if_neg h1, if_neg]
      rw [List.getElem?_take]
      split
      · exact h1
      · simp
  · rename_i hh
    simp only [hh] at hm he hp ⊢
    by_cases h1 : s[1]? = some 61
    · rw [if_pos h1] at hm ⊢
      rw [if_pos (by rw [List.getElem?_take, if_pos (show 1 < m from hm)]; exact h1)]
    · rw [if_neg h1] at he; cases he
  · rename_i n3 n4 n6 n7 n8
    exfalso
    revert he
    split <;> first | (simp_all; done) | simp

/-! ### Places -/

theorem Lx.congr {a1 a2 : Nat} {s1 s2 : List UInt8} {l : List Tok} {r : Option (Nat × Nat)} (h : skip false s1 = skip false s2) (ha : a1 + s1.length = a2 + s2.length) (hx : Lx a1 s1 l r) : Lx a2 s2 l r := by
  have hl1 := skip_length false s1
  have hl2 := skip_length false s2
  cases hx with
  | nil h' => exact .nil (h ▸ h')
  | @bad _ _ s' h' hne he =>
    rw [h'] at hl1; rw [← h, h'] at hl2
    have e : a1 + (s1.length - s'.length) = a2 + (s2.length - s'.length) := by omega
    rw [e]
    exact .bad (h ▸ h') hne he
  | @tok _ _ s' l r h' hne he ht =>
    rw [h'] at hl1; rw [← h, h'] at hl2
    have e : a1 + (s1.length - s'.length) = a2 + (s2.length - s'.length) := by omega
    rw [e] at ht ⊢
    exact .tok (h ▸ h') hne he ht

theorem Lx.cast {a a' : Nat} {s s' : List UInt8} {l : List Tok} {r : Option (Nat × Nat)} (h : Lx a s l r) (ha : a = a') (hs : s = s') : Lx a' s' l r := by subst ha hs; exact h

def Tok.shift (k : Nat) (t : Tok) : Tok := { t with pos := t.pos + k }

theorem Lx.shift {a : Nat} {s : List UInt8} {l : List Tok} {r : Option (Nat × Nat)} (h : Lx a s l r) (k : Nat) : Lx (a + k) s (l.map (Tok.shift k)) (r.map fun x => (x.1, x.2 + k)) := by
  induction h with
  | nil h => exact .nil h
  | @bad a s s' h hne he =>
    have := @Lx.bad (a + k) s s' h hne he
    simp only [List.map_nil, Option.map_some]
    rw [show a + (s.length - s'.length) + k = a + k + (s.length - s'.length) by omega]
    exact this
  | @tok a s s' l r h hne he h' ih =>
    have := @Lx.tok (a + k) s s' _ _ h hne he (ih.cast (by omega) rfl)
    simp only [List.map_cons]
    have e : Tok.shift k (found (a + (s.length - s'.length)) s').tok = (found (a + k + (s.length - s'.length)) s').tok := by
      simp only [found, Tok.shift]
      congr 1; omega
    rw [e]; exact this

/-- Two texts with a line feed between them. -/
theorem Lx.app {a : Nat} {s : List UInt8} {l : List Tok} {r : Option (Nat × Nat)} (h : Lx a s l r) : ∀ {t : List UInt8} {l2 : List Tok} {r2 : Option (Nat × Nat)}, Lx (a + s.length + 1) t l2 r2 →
    Lx a (s ++ 10 :: t) (match r with | none => l ++ l2 | some _ => l) (match r with | none => r2 | some x => some x) := by
  have hgap : ∀ t : List UInt8, gapHead (10 :: t) := fun t => ⟨10, t, rfl, .inl rfl⟩
  induction h with
  | @nil a s h =>
    intro t l2 r2 ht
    refine ht.congr ?_ (by simp; omega)
    rw [skip_app_nil false s t h]
  | @bad a s s' h hne he =>
    intro t l2 r2 ht
    have h1 : skip false (s ++ 10 :: t) = s' ++ 10 :: t := by rw [skip_app_ne false s _ (by rw [h]; exact hne), h]
    have h2 := one_app hne (hgap t)
    have h3 := @Lx.bad a _ _ h1 (by simp) (by rw [h2]; exact he)
    rw [h2] at h3
    have e : (s ++ 10 :: t).length - (s' ++ 10 :: t).length = s.length - s'.length := by simp; omega
    rw [e] at h3
    exact h3
  | @tok a s s' l r h hne he h' ih =>
    intro t l2 r2 ht
    have h1 : skip false (s ++ 10 :: t) = s' ++ 10 :: t := by rw [skip_app_ne false s _ (by rw [h]; exact hne), h]
    have h2 := one_app hne (hgap t)
    have hl := skip_length false s
    rw [h] at hl
    have hle := one_len_le s' hne
    have e : (s ++ 10 :: t).length - (s' ++ 10 :: t).length = s.length - s'.length := by simp; omega
    have h4 := ih (ht.cast (a' := a + (s.length - s'.length) + (one s').len + (s'.drop (one s').len).length + 1) (by rw [List.length_drop]; omega) rfl)
    have h3 := @Lx.tok a _ _ _ _ h1 (by simp) (by rw [h2]; exact he) (h4.cast (by rw [h2, e]) (by rw [h2, List.drop_append_of_le_length hle]))
    have ef : (found (a + ((s ++ 10 :: t).length - (s' ++ 10 :: t).length)) (s' ++ 10 :: t)).tok = (found (a + (s.length - s'.length)) s').tok := by
      simp only [found, h2, e, List.take_append_of_le_length hle]
    rw [ef] at h3
    cases r with
    | none => exact h3
    | some x => exact h3

/-- The text before an error; the text from it on. -/
theorem Lx.before {a : Nat} {s : List UInt8} {l : List Tok} {r : Option (Nat × Nat)} (h : Lx a s l r) : ∀ {e p : Nat}, r = some (e, p) →
    a ≤ p ∧ p < a + s.length ∧ Lx a (s.take (p - a)) l none ∧ ∀ b, Lx b (s.drop (p - a)) [] (some (e, b)) := by
  induction h with
  | nil h => intro e p hr; cases hr
  | @bad a s s' h hne he =>
    intro e p hr
    simp only [Option.some.injEq, Prod.mk.injEq] at hr
    obtain ⟨rfl, rfl⟩ := hr
    have hl := skip_length false s
    rw [h] at hl
    have hp := List.length_pos_iff.2 hne
    refine ⟨by omega, by omega, ?_, fun b => ?_⟩
    · rw [Nat.add_sub_cancel_left]
      exact .nil (skip_take h)
    · rw [Nat.add_sub_cancel_left, skip_drop h]
      have h2 : skip false s' = s' := by rw [← h]; exact skip_skip _ _
      have := @Lx.bad b s' s' h2 hne he
      rw [Nat.sub_self] at this
      exact this
  | @tok a s s' l r h hne he h' ih =>
    intro e p hr
    obtain ⟨h1, h2, h3, h4⟩ := ih hr
    have hl := skip_length false s
    rw [h] at hl
    have hle := one_len_le s' hne
    have hp := one_len_pos _ he
    rw [List.length_drop] at h2
    refine ⟨by omega, by omega, ?_, fun b => ?_⟩
    · -- the head of the text cut
      obtain ⟨g, hg1, hg2⟩ := skip_pre false s
      have hgl := congrArg List.length hg1
      rw [List.length_append, h] at hgl
      have hcut : s.take (p - a) = g ++ s'.take (p - a - g.length) := by
        conv => lhs; rw [hg1, h]
        rw [List.take_append, List.take_of_length_le (by omega)]
      have hm : (one s').len ≤ p - a - g.length := by omega
      have hone := one_take he hm
      have hne2 : s'.take (p - a - g.length) ≠ [] := by
        intro h0
        have := congrArg List.length h0
        rw [List.length_take, List.length_nil] at this
        omega
      have hskip : skip false (s.take (p - a)) = s'.take (p - a - g.length) := by
        cases s' with
        | nil => exact absurd rfl hne
        | cons c s' =>
          obtain ⟨hc1, hc2⟩ := skip_head' h
          rw [hcut]
          have hmm : ∃ m, p - a - g.length = m + 1 := ⟨p - a - g.length - 1, by omega⟩
          obtain ⟨m, hm⟩ := hmm
          rw [hm, List.take_succ_cons]
          refine skip_swap g s' _ hc1 hc2 ?_
          rw [← h, ← hg1]
      have e1 : (s.take (p - a)).length - (s'.take (p - a - g.length)).length = g.length := by
        rw [hcut, List.length_append]; omega
      have e2 : s.length - s'.length = g.length := by omega
      have h3' : Lx (a + g.length + (one s').len) ((s'.take (p - a - g.length)).drop (one s').len) l none := by
        refine h3.cast (by rw [e2]) ?_
        rw [List.drop_take]
        congr 1
        omega
      have h5 := @Lx.tok a _ _ _ _ hskip hne2 (by rw [hone]; exact he) (h3'.cast (by rw [hone, e1]) (by rw [hone]))
      have ef : (found (a + ((s.take (p - a)).length - (s'.take (p - a - g.length)).length)) (s'.take (p - a - g.length))).tok = (found (a + (s.length - s'.length)) s').tok := by
        simp only [found, hone, e1, e2, List.take_take, Nat.min_eq_left hm]
      rw [ef] at h5
      exact h5
    · refine (h4 b).cast rfl ?_
      rw [List.drop_drop]
      have : s'.drop ((one s').len + (p - (a + (s.length - s'.length) + (one s').len))) = s.drop (p - a) := by
        have hsd := skip_drop h
        have e3 : ∀ k, s'.drop k = s.drop (s.length - s'.length + k) := fun k => by rw [← List.drop_drop, hsd]
        rw [e3]
        congr 1
        omega
      exact this

/-- Where tokens stand in a text. -/
def Places (T : List UInt8) : Nat → List Tok → Prop
  | e, [] => e ≤ T.length ∧ skip false (T.drop e) = []
  | e, t :: l => e ≤ t.pos ∧ 0 < t.text.length ∧ t.pos + t.text.length ≤ T.length ∧ (T.take (t.pos + t.text.length)).drop t.pos = t.text ∧
      skip false ((T.take t.pos).drop e) = [] ∧ Places T (t.pos + t.text.length) l

theorem Lx.places {T : List UInt8} {a : Nat} {s : List UInt8} {l : List Tok} {r : Option (Nat × Nat)} (h : Lx a s l r) (hr : r = none) (ha : a ≤ T.length) (hs : s = T.drop a) : Places T a l := by
  induction h with
  | nil h => exact ⟨ha, hs ▸ h⟩
  | bad h hne he => cases hr
  | @tok a s s' l r h hne he h' ih =>
    have hl := skip_length false s
    rw [h] at hl
    have hle := one_len_le s' hne
    have hp := one_len_pos _ he
    have hsl : s.length = T.length - a := by rw [hs, List.length_drop]
    have hsd := skip_drop h
    have htl : (s'.take (one s').len).length = (one s').len := by rw [List.length_take]; omega
    have hs' : s' = T.drop (a + (s.length - s'.length)) := by
      rw [← List.drop_drop, ← hs, hsd]
    have hpos : 0 < s'.length := List.length_pos_iff.2 hne
    refine ⟨by simp only [found]; omega, by simp only [found, htl]; omega, by simp only [found, htl]; omega, ?_, ?_, ?_⟩
    · simp only [found, htl]
      rw [List.drop_take, ← hs']
      congr 1; omega
    · simp only [found]
      rw [List.drop_take, ← hs, Nat.add_sub_cancel_left]
      exact skip_take h
    · simp only [found, htl]
      refine ih hr (by omega) ?_
      rw [← List.drop_drop, ← hs']

/-- What follows a token directly. -/
theorem Lx.next_ne {a : Nat} {s : List UInt8} {t : Tok} {l : List Tok} {r : Option (Nat × Nat)} (h : Lx a s (t :: l) r) : ∃ s', skip false s = s' ∧ s' ≠ [] ∧ (one s').err = 0 ∧ t = (found (a + (s.length - s'.length)) s').tok ∧
    Lx (t.pos + t.text.length) (s'.drop (one s').len) l r := by
  cases h with
  | @tok _ _ s' _ _ h hne he h' =>
    refine ⟨s', h, hne, he, rfl, ?_⟩
    have hle := one_len_le s' hne
    have htl : (s'.take (one s').len).length = (one s').len := by rw [List.length_take]; omega
    simp only [found, htl]
    exact h'

theorem take_append_take {s : List UInt8} {n m : Nat} : s.take n ++ (s.drop n).take m = s.take (n + m) := by
  rw [List.take_add]

/-- Two tokens that follow each other directly are no single token. -/
theorem Lx.longest {a : Nat} {s : List UInt8} {t u : Tok} {l : List Tok} {r : Option (Nat × Nat)} (h : Lx a s (t :: u :: l) r) (hd : t.pos + t.text.length = u.pos) : ∀ l2, Lx 0 (t.text ++ u.text) l2 none → l2.length ≠ 1 := by
  obtain ⟨s', h1, hne, he, rfl, h2⟩ := h.next_ne
  obtain ⟨s2, h3, hne2, he2, rfl, h4⟩ := h2.next_ne
  have hle := one_len_le s' hne
  have hle2 := one_len_le s2 hne2
  have hp2 := one_len_pos s2 he2
  have hp := one_len_pos s' he
  have hl2 := skip_length false (s'.drop (one s').len)
  rw [h3] at hl2
  have hs2 : s'.drop (one s').len = s2 := by
    have := skip_drop h3
    simp only [found] at hd
    rw [show (s'.drop (one s').len).length - s2.length = 0 by omega] at this
    simpa using this
  have e : (found (a + (s.length - s'.length)) s').tok.text ++ (found ((found (a + (s.length - s'.length)) s').tok.pos + (found (a + (s.length - s'.length)) s').tok.text.length + ((s'.drop (one s').len).length - s2.length)) s2).tok.text = s'.take ((one s').len + (one s2).len) := by
    simp only [found]
    rw [← hs2, take_append_take, hs2]
  rw [e]
  intro l2 hx hlen
  have hone := one_take (m := (one s').len + (one s2).len) he (by omega)
  have hsk : skip false (s'.take ((one s').len + (one s2).len)) = s'.take ((one s').len + (one s2).len) := by
    cases s' with
    | nil => exact absurd rfl hne
    | cons c s' =>
      obtain ⟨hc1, hc2⟩ := skip_head' h1
      obtain ⟨m, hm⟩ : ∃ m, (one (c :: s')).len + (one s2).len = m + 1 := ⟨(one (c :: s')).len + (one s2).len - 1, by omega⟩
      rw [hm, List.take_succ_cons]
      exact skip_of_head hc1 hc2
  cases l2 with
  | nil => cases hlen
  | cons x l2 =>
    cases l2 with
    | cons y l2 => simp at hlen
    | nil =>
      obtain ⟨q, hq1, hq2, hq3, -, hq5⟩ := hx.next_ne
      rw [hsk] at hq1
      subst hq1
      rw [hone, List.drop_take, Nat.add_sub_cancel_left, hs2] at hq5
      have hsk2 : skip false (s2.take (one s2).len) = s2.take (one s2).len := by
        cases s2 with
        | nil => exact absurd rfl hne2
        | cons c s2 =>
          obtain ⟨hc1, hc2⟩ := skip_head' h3
          obtain ⟨m, hm⟩ : ∃ m, (one (c :: s2)).len = m + 1 := ⟨(one (c :: s2)).len - 1, by omega⟩
          rw [hm, List.take_succ_cons]
          exact skip_of_head hc1 hc2
      cases hq5 with
      | nil h =>
        rw [hsk2] at h
        have := congrArg List.length h
        rw [List.length_take, List.length_nil] at this
        omega

/-! ### Tokens that are alike -/

def Tok.like (a b : Tok) : Prop := a.kind = b.kind ∧ a.text = b.text ∧ a.num = b.num

inductive Like : List Tok → List Tok → Prop
  | nil : Like [] []
  | cons {a b l m} : a.like b → Like l m → Like (a :: l) (b :: m)

theorem Like.refl : ∀ l, Like l l
  | [] => .nil
  | _ :: l => .cons ⟨rfl, rfl, rfl⟩ (Like.refl l)

theorem Like.app {a b c d : List Tok} (h : Like a b) (h2 : Like c d) : Like (a ++ c) (b ++ d) := by
  induction h with
  | nil => exact h2
  | cons h _ ih => exact .cons h ih

theorem Like.trans {a b c : List Tok} (h : Like a b) : Like b c → Like a c := by
  induction h generalizing c with
  | nil => exact id
  | cons h _ ih =>
    intro h2
    cases h2 with
    | cons h3 h4 => exact .cons ⟨h.1.trans h3.1, h.2.1.trans h3.2.1, h.2.2.trans h3.2.2⟩ (ih h4)

theorem like_shift (k : Nat) : ∀ l : List Tok, Like l (l.map (Tok.shift k))
  | [] => .nil
  | t :: l => .cons ⟨rfl, rfl, rfl⟩ (like_shift k l)

theorem Like.length {a b : List Tok} (h : Like a b) : a.length = b.length := by
  induction h with
  | nil => rfl
  | cons _ _ ih => simp [ih]

theorem gapHead_skip {g : List UInt8} (h : gapHead g) : g ≠ [] := by obtain ⟨c, g', rfl, -⟩ := h; simp

def write (l : List Tok) : List UInt8 := l.flatMap fun t => t.text ++ [32]

theorem write_cons (t : Tok) (l : List Tok) : write (t :: l) = t.text ++ 32 :: write l := by simp [write]

/-- A token's text, with a gap behind it. -/
theorem Lx.head {s' g : List UInt8} (hne : s' ≠ []) (he : (one s').err = 0) (hsk : skip false s' = s') (hg : gapHead g) (a : Nat) {l : List Tok} {r : Option (Nat × Nat)} (h : Lx (a + (one s').len) g l r) :
    Lx a (s'.take (one s').len ++ g) ((found a s').tok :: l) r := by
  have hle := one_len_le s' hne
  have hp := one_len_pos s' he
  have hone : one (s'.take (one s').len) = one s' := one_take he (Nat.le_refl _)
  have htl : (s'.take (one s').len).length = (one s').len := by rw [List.length_take]; omega
  have htne : s'.take (one s').len ≠ [] := by
    intro h0
    rw [h0] at htl
    simp at htl; omega
  have hone2 : one (s'.take (one s').len ++ g) = one s' := by rw [one_app htne hg, hone]
  have hsk2 : skip false (s'.take (one s').len ++ g) = s'.take (one s').len ++ g := by
    cases s' with
    | nil => exact absurd rfl hne
    | cons c s' =>
      obtain ⟨hc1, hc2⟩ := skip_head' hsk
      obtain ⟨m, hm⟩ : ∃ m, (one (c :: s')).len = m + 1 := ⟨(one (c :: s')).len - 1, by omega⟩
      rw [hm, List.take_succ_cons, List.cons_append]
      exact skip_of_head hc1 hc2
  have h2 := @Lx.tok a _ _ l r hsk2 (by simp [htne]) (by rw [hone2]; exact he) (h.cast (by rw [Nat.sub_self, hone2]; rfl) (by rw [hone2, List.drop_append_of_le_length (by omega), List.drop_of_length_le (by omega), List.nil_append]))
  have e : (found (a + ((s'.take (one s').len ++ g).length - (s'.take (one s').len ++ g).length)) (s'.take (one s').len ++ g)).tok = (found a s').tok := by
    simp only [found, hone2, Nat.sub_self, Nat.add_zero]
    rw [List.take_append_of_le_length (by omega), List.take_of_length_le (by omega)]
  rw [e] at h2
  exact h2

theorem Lx.again {a : Nat} {s : List UInt8} {l : List Tok} {r : Option (Nat × Nat)} (h : Lx a s l r) : ∀ b, ∃ m, Lx b (write l) m none ∧ Like l m := by
  induction h with
  | nil h => exact fun b => ⟨[], .nil rfl, .nil⟩
  | bad h hne he => exact fun b => ⟨[], .nil rfl, .nil⟩
  | @tok a s s' l r h hne he h' ih =>
    intro b
    obtain ⟨m, h1, h2⟩ := ih (b + (one s').len + 1)
    have hsk : skip false s' = s' := by rw [← h]; exact skip_skip _ _
    have h3 : Lx (b + (one s').len) (32 :: write l) m none := by
      refine h1.congr ?_ (by simp; omega)
      simp [skip, show cls 32 = 1 from rfl]
    refine ⟨(found b s').tok :: m, ?_, .cons ⟨rfl, rfl, rfl⟩ h2⟩
    rw [write_cons]
    exact h3.head hne he hsk ⟨32, _, rfl, .inl rfl⟩ b

theorem write_length {a : Nat} {s : List UInt8} {l : List Tok} {r : Option (Nat × Nat)} (h : Lx a s l r) : (write l).length ≤ 2 * s.length := by
  induction h with
  | nil h => exact Nat.zero_le _
  | bad h hne he => exact Nat.zero_le _
  | @tok a s s' l r h hne he h' ih =>
    have hl := skip_length false s
    rw [h] at hl
    have hle := one_len_le s' hne
    have hp := one_len_pos _ he
    rw [List.length_drop] at ih
    rw [write_cons]
    simp only [List.length_append, List.length_cons, found, List.length_take]
    omega

/-! ### Gaps before, between and behind -/

/-- Up to the end of a token, and from there on. -/
theorem Lx.split {a : Nat} {s : List UInt8} {l : List Tok} {r : Option (Nat × Nat)} (h : Lx a s l r) : ∀ (i : Nat) (t : Tok), l[i]? = some t → a ≤ t.pos + t.text.length ∧ t.pos + t.text.length ≤ a + s.length ∧
    Lx (t.pos + t.text.length) (s.drop (t.pos + t.text.length - a)) (l.drop (i + 1)) r ∧
    ∀ (g : List UInt8) (b : Nat) (m : List Tok), gapHead g → Lx (b + (t.pos + t.text.length - a)) g m r → ∃ q, Lx b (s.take (t.pos + t.text.length - a) ++ g) q r ∧ Like q (l.take (i + 1) ++ m) := by
  induction h with
  | nil h => intro i t hi; simp at hi
  | bad h hne he => intro i t hi; simp at hi
  | @tok a s s' l r h hne he h' ih =>
    intro i t hi
    have hl := skip_length false s
    rw [h] at hl
    have hle := one_len_le s' hne
    have hp := one_len_pos _ he
    have hsd := skip_drop h
    have hsk : skip false s' = s' := by rw [← h]; exact skip_skip _ _
    obtain ⟨g0, hg1, hg2⟩ := skip_pre false s
    have hgl := congrArg List.length hg1
    rw [List.length_append, h] at hgl
    rw [h] at hg1
    have htl : (s'.take (one s').len).length = (one s').len := by rw [List.length_take]; omega
    have hskg : ∀ q c, s' = c :: q → ∀ z, skip false (g0 ++ c :: z) = c :: z := by
      intro q c hq z
      subst hq
      obtain ⟨hc1, hc2⟩ := skip_head' h
      exact skip_swap g0 q z hc1 hc2 (hg1 ▸ h)
    cases i with
    | zero =>
      simp only [List.getElem?_cons_zero, Option.some.injEq] at hi
      subst hi
      simp only [found, htl]
      refine ⟨by omega, by omega, ?_, ?_⟩
      · refine h'.cast rfl ?_
        rw [show a + (s.length - s'.length) + (one s').len - a = (s.length - s'.length) + (one s').len by omega, ← List.drop_drop, hsd]
      · intro g b m hg hm
        have e0 : a + (s.length - s'.length) + (one s').len - a = g0.length + (one s').len := by omega
        rw [e0] at hm ⊢
        have hx := (hm.cast (a' := b + g0.length + (one s').len) (by omega) rfl).head hne he hsk hg (b + g0.length)
        have htk : s.take (g0.length + (one s').len) = g0 ++ s'.take (one s').len := by
          conv => lhs; rw [hg1]
          rw [List.take_append, List.take_of_length_le (by omega)]
          congr 1
          congr 1; omega
        refine ⟨(found (b + g0.length) s').tok :: m, ?_, ?_⟩
        · refine hx.congr ?_ ?_
          · rw [htk, List.append_assoc]
            cases s' with
            | nil => exact absurd rfl hne
            | cons c s' =>
              obtain ⟨k, hk⟩ : ∃ m, (one (c :: s')).len = m + 1 := ⟨(one (c :: s')).len - 1, by omega⟩
              rw [hk, List.take_succ_cons, List.cons_append, hskg s' c rfl]
              obtain ⟨hc1, hc2⟩ := skip_head' h
              exact skip_of_head hc1 hc2
          · rw [htk]; simp; omega
        · exact .cons ⟨rfl, rfl, rfl⟩ (by simpa using Like.refl m)
    | succ i =>
      simp only [List.getElem?_cons_succ] at hi
      obtain ⟨h1, h2, h3, h4⟩ := ih i t hi
      rw [List.length_drop] at h2
      refine ⟨by omega, by omega, ?_, ?_⟩
      · rw [List.drop_succ_cons]
        refine h3.cast rfl ?_
        rw [List.drop_drop, ← hsd, List.drop_drop, hsd]
        congr 1; omega
      · intro g b m hg hm
        obtain ⟨q, hq1, hq2⟩ := h4 g (b + g0.length + (one s').len) m hg (hm.cast (by omega) rfl)
        have e0 : t.pos + t.text.length - a = g0.length + ((one s').len + (t.pos + t.text.length - (a + (s.length - s'.length) + (one s').len))) := by omega
        have htk : s.take (t.pos + t.text.length - a) = g0 ++ s'.take ((one s').len + (t.pos + t.text.length - (a + (s.length - s'.length) + (one s').len))) := by
          rw [e0]
          conv => lhs; arg 2; rw [hg1]
          rw [List.take_append, List.take_of_length_le (by omega)]
          congr 1
          congr 1; omega
        have hs2 : s'.take ((one s').len + (t.pos + t.text.length - (a + (s.length - s'.length) + (one s').len))) ++ g = (s'.take ((one s').len + (t.pos + t.text.length - (a + (s.length - s'.length) + (one s').len)))) ++ g := rfl
        have hone : one (s'.take ((one s').len + (t.pos + t.text.length - (a + (s.length - s'.length) + (one s').len))) ++ g) = one s' := by
          rw [one_app (by intro h0; have := congrArg List.length h0; rw [List.length_take, List.length_nil] at this; omega) hg, one_take he (by omega)]
        refine ⟨(found (b + g0.length) s').tok :: q, ?_, by rw [List.take_succ_cons, List.cons_append]; exact .cons ⟨rfl, rfl, rfl⟩ hq2⟩
        have hskip : skip false (s.take (t.pos + t.text.length - a) ++ g) = s'.take ((one s').len + (t.pos + t.text.length - (a + (s.length - s'.length) + (one s').len))) ++ g := by
          rw [htk, List.append_assoc]
          cases s' with
          | nil => exact absurd rfl hne
          | cons c s' =>
            obtain ⟨k, hk⟩ : ∃ m, (one (c :: s')).len + (t.pos + t.text.length - (a + (s.length - (c :: s').length) + (one (c :: s')).len)) = m + 1 := ⟨(one (c :: s')).len + (t.pos + t.text.length - (a + (s.length - (c :: s').length) + (one (c :: s')).len)) - 1, by omega⟩
            rw [hk, List.take_succ_cons, List.cons_append, hskg s' c rfl]
        have e1 : (s.take (t.pos + t.text.length - a) ++ g).length - (s'.take ((one s').len + (t.pos + t.text.length - (a + (s.length - s'.length) + (one s').len))) ++ g).length = g0.length := by
          rw [htk]; simp only [List.length_append]; omega
        have h5 := @Lx.tok b _ _ q r hskip (by intro h0; exact gapHead_skip hg (List.append_eq_nil_iff.1 h0).2) (by rw [hone]; exact he) (hq1.cast (by rw [hone, e1]) (by
          rw [hone, List.drop_append_of_le_length (by rw [List.length_take]; omega), List.drop_take]
          congr 2; omega))
        have ef : (found (b + ((s.take (t.pos + t.text.length - a) ++ g).length - (s'.take ((one s').len + (t.pos + t.text.length - (a + (s.length - s'.length) + (one s').len))) ++ g).length)) (s'.take ((one s').len + (t.pos + t.text.length - (a + (s.length - s'.length) + (one s').len))) ++ g)).tok = (found (b + g0.length) s').tok := by
          simp only [found, hone, e1]
          rw [List.take_append_of_le_length (by rw [List.length_take]; omega), List.take_take, Nat.min_eq_left (by omega)]
        rw [ef] at h5
        exact h5
end Go.Lexs

/-
  Names, in plain Lean: what the lexer says of a text that is one token.
-/
set_option linter.unusedVariables false
set_option linter.unusedSimpArgs false
set_option linter.unnecessarySimpa false
set_option maxRecDepth 10000
namespace Go.Fin
open Go.Lexs

/-- Is a text a name? -/
def Nm (s : List UInt8) : Bool := s.all isWord && decide (0 < s.length ∧ s.length ≤ 24 ∧ hd s = 3)

theorem spanLen_all' {p : UInt8 → Bool} : ∀ (s : List UInt8), s.all p = true → spanLen p s = s.length
  | [], _ => rfl
  | c :: s, h => by
    simp only [List.all_cons, Bool.and_eq_true] at h
    simp only [spanLen, h.1, if_true, spanLen_all' s h.2, List.length_cons]

theorem spanLen_all_of {p : UInt8 → Bool} : ∀ (s : List UInt8), spanLen p s = s.length → s.all p = true
  | [], _ => rfl
  | c :: s, h => by
    simp only [spanLen] at h
    split at h
    · rename_i hc
      simp only [List.length_cons] at h
      rw [List.all_cons, hc, spanLen_all_of s (by omega)]
      rfl
    · simp at h

/-- One token that is the whole text, and a name. -/
theorem lex_name (s : List UInt8) : (∃ t, lex s = .ok [t] ∧ t.kind = 1 ∧ t.text = s) ↔ Nm s = true := by
  constructor
  · rintro ⟨t, h, hk, ht⟩
    have hlen : ¬ 20000 < s.length := fun hl => by unfold lex at h; rw [if_pos hl] at h; cases h
    obtain ⟨l, r, hx⟩ := Lx.exists s.length 0 s (Nat.le_refl _)
    -- the first token is the whole text
    obtain ⟨fs, hf1, hf2⟩ := hx.founds s.length (Nat.le_refl _)
    unfold lex at h
    rw [if_neg hlen, hf1] at h
    have hshape : ∃ s', skip false s = s' ∧ s' ≠ [] ∧ (one s').err = 0 ∧ t = (found (0 + (s.length - s'.length)) s').tok := by
      cases l with
      | nil =>
        simp only [List.map_nil, List.nil_append] at h
        cases r with
        | none => simp only at hf2; subst hf2; simp [gather] at h
        | some ep =>
          obtain ⟨e, p⟩ := ep
          obtain ⟨he, k, rfl, -⟩ := hf2
          simp [gather, he] at h
      | cons u l =>
        obtain ⟨s', h1, h2, h3, h4, -⟩ := hx.next_ne
        refine ⟨s', h1, h2, h3, ?_⟩
        rw [← h4]
        simp only [List.map_cons, List.cons_append, gather, ne_eq, not_true_eq_false, if_false, List.length_nil, List.nil_append] at h
        rw [if_neg (by omega)] at h
        have key : ∀ (fs : List Found) (acc : List Tok), (∃ a b, acc = a :: b) → gather acc fs = .ok [t] → ∃ b, acc = t :: b := by
          intro fs
          induction fs with
          | nil =>
            rintro acc ⟨a, b, rfl⟩ h
            simp only [gather, Res.ok.injEq] at h
            exact ⟨b, by rw [h]; simp at h; rw [h.2]⟩
          | cons f fs ih =>
            rintro acc ⟨a, b, rfl⟩ h
            simp only [gather] at h
            split at h
            · cases h
            · split at h
              · cases h
              · obtain ⟨b', hb⟩ := ih _ ⟨a, b ++ [f.tok], rfl⟩ h
                simp at hb
                exact ⟨b, by rw [hb.1]⟩
        obtain ⟨b', hb⟩ := key _ _ ⟨u, [], rfl⟩ h
        simp at hb
        exact hb.1.symm
    obtain ⟨s', h1, h2, h3, rfl⟩ := hshape
    simp only [found] at hk ht
    have hl := skip_length false s
    rw [h1] at hl
    have hle := one_len_le s' h2
    have htl : (s'.take (one s').len).length = s.length := by rw [ht]
    rw [List.length_take] at htl
    have hs' : s' = s := by
      have := skip_drop h1
      rw [show s.length - s'.length = 0 by omega] at this
      simpa using this.symm
    subst hs'
    have hfull : (one s').len = s'.length := by omega
    have hpos := List.length_pos_iff.2 h2
    unfold one at hk h3 hfull
    unfold Nm
    split at hk
    · rename_i hh
      rw [hh] at h3 hfull
      simp only at h3 hfull
      rw [spanLen_all_of s' hfull]
      rw [hfull] at h3
      simp only [Bool.true_and, decide_eq_true_eq]
      refine ⟨hpos, ?_, hh⟩
      split at h3
      · cases h3
      · omega
    · simp only at hk; split at hk <;> cases hk
    · cases hk
    · cases hk
    · split at hk <;> cases hk
    · cases hk
  · intro h
    unfold Nm at h
    simp only [Bool.and_eq_true, decide_eq_true_eq] at h
    obtain ⟨h1, h2, h3, h4⟩ := h
    have o1 : one s = ⟨1, s.length, 0, 0⟩ := by
      unfold one
      rw [h4]
      simp only [spanLen_all' s h1]
      rw [if_neg (by omega)]
    have k1 : skip false s = s := by
      cases s with
      | nil => rfl
      | cons a t => simp only [hd] at h4; exact skip_of_head (by omega) (by omega)
    have hx : Lx 0 s [(found (0 + (s.length - s.length)) s).tok] none :=
      .tok k1 (by intro h; rw [h] at h2; simp at h2) (by rw [o1]) (.nil (by rw [o1, List.drop_of_length_le (Nat.le_refl _)]; rfl))
    refine ⟨_, hx.lex (by omega), by simp only [found, o1], by simp only [found, o1, List.take_of_length_le (Nat.le_refl _)]⟩

theorem gather_err : ∀ (fs : List Found) (acc : List Tok) (e : Nat) (off : Int), gather acc fs = .bad e off → e ≠ 0
  | [], acc, e, off, h => by cases h
  | f :: fs, acc, e, off, h => by
    simp only [gather] at h
    split at h
    · rename_i hf
      cases h
      exact hf
    · split at h
      · cases h; omega
      · exact gather_err fs _ e off h

theorem lex_err {s : List UInt8} {e : Nat} {off : Int} (h : lex s = .bad e off) : e ≠ 0 := by
  unfold lex at h
  split at h
  · cases h; omega
  · exact gather_err _ _ _ _ h

end Go.Fin

/-
  Formulas, domains and cases, in plain Lean: no program in sight.
-/
set_option linter.unusedVariables false
set_option linter.unusedSimpArgs false
set_option linter.unnecessarySimpa false
set_option maxRecDepth 10000
namespace Go.Fo
open Go.Lexs Go.Fin

inductive Fm
  | node (op : Int) (name : List UInt8) (cmp num : Int) (kids : List Fm)

namespace Fm
def op : Fm → Int | .node o _ _ _ _ => o
def name : Fm → List UInt8 | .node _ s _ _ _ => s
def cmp : Fm → Int | .node _ _ c _ _ => c
def num : Fm → Int | .node _ _ _ n _ => n
def kids : Fm → List Fm | .node _ _ _ _ ks => ks

theorem size_kid {f k : Fm} (h : k ∈ f.kids) : sizeOf k < sizeOf f := by
  cases f with
  | node o s c n ks =>
    have := List.sizeOf_lt_of_mem (show k ∈ ks from h)
    simp
    omega

theorem ind {Q : Fm → Prop} (h : ∀ f, (∀ k ∈ f.kids, Q k) → Q f) (f : Fm) : Q f := h f fun k hk => ind h k
termination_by f
decreasing_by exact size_kid hk

theorem eta (f : Fm) : f = .node f.op f.name f.cmp f.num f.kids := by cases f; rfl
end Fm

mutual
def cnt : Fm → Nat
  | .node _ _ _ _ ks => 1 + cntL ks
def cntL : List Fm → Nat
  | [] => 0
  | k :: ks => cnt k + cntL ks
end

mutual
def dep : Fm → Nat
  | .node _ _ _ _ ks => depL ks + 1
def depL : List Fm → Nat
  | [] => 0
  | k :: ks => max (dep k) (depL ks)
end

mutual
/-- All nodes, a node before its kids. -/
def pre : Fm → List Fm
  | .node o s c n ks => .node o s c n ks :: preL ks
def preL : List Fm → List Fm
  | [] => []
  | k :: ks => pre k ++ preL ks
end

theorem cnt_eq (f : Fm) : cnt f = 1 + cntL f.kids := by cases f; simp [cnt, Fm.kids]
theorem dep_eq (f : Fm) : dep f = depL f.kids + 1 := by cases f; simp [dep, Fm.kids]
theorem pre_eq (f : Fm) : pre f = f :: preL f.kids := by cases f; simp [pre, Fm.kids]
theorem cnt_pos (f : Fm) : 0 < cnt f := by rw [cnt_eq]; omega

theorem cntL_app (a b : List Fm) : cntL (a ++ b) = cntL a + cntL b := by
  induction a with
  | nil => simp [cntL]
  | cons k a ih => simp only [List.cons_append, cntL, ih]; omega
theorem depL_app (a b : List Fm) : depL (a ++ b) = max (depL a) (depL b) := by
  induction a with
  | nil => simp [depL]
  | cons k a ih => simp only [List.cons_append, depL, ih]; omega
theorem preL_app (a b : List Fm) : preL (a ++ b) = preL a ++ preL b := by
  induction a with
  | nil => simp [preL]
  | cons k a ih => simp only [List.cons_append, preL, ih, List.append_assoc]
theorem cntL_snoc (a : List Fm) (k : Fm) : cntL (a ++ [k]) = cntL a + cnt k := by rw [cntL_app]; simp [cntL]
theorem depL_snoc (a : List Fm) (k : Fm) : depL (a ++ [k]) = max (depL a) (dep k) := by rw [depL_app]; simp [depL]
theorem preL_snoc (a : List Fm) (k : Fm) : preL (a ++ [k]) = preL a ++ pre k := by rw [preL_app]; simp [preL]

theorem cntL_take (ks : List Fm) (i : Nat) : cntL (ks.take i) ≤ cntL ks := by
  have := cntL_app (ks.take i) (ks.drop i)
  rw [List.take_append_drop] at this
  omega
theorem cnt_kid {ks : List Fm} {i : Nat} (h : i < ks.length) : cntL (ks.take i) + cnt ks[i] ≤ cntL ks := by
  have := cntL_take ks (i + 1)
  rw [List.take_succ_eq_append_getElem h, cntL_snoc] at this
  exact this
theorem len_cntL (ks : List Fm) : ks.length ≤ cntL ks := by
  induction ks with
  | nil => simp
  | cons k ks ih => have := cnt_pos k; simp only [List.length_cons, cntL]; omega
theorem depL_le_cntL_of {ks : List Fm} (h : ∀ k ∈ ks, dep k ≤ cnt k) : depL ks ≤ cntL ks := by
  induction ks with
  | nil => simp [depL]
  | cons k ks ih =>
    have h1 := h k List.mem_cons_self
    have h2 := ih fun x hx => h x (List.mem_cons_of_mem _ hx)
    simp only [depL, cntL]; omega
theorem dep_le_cnt : ∀ f : Fm, dep f ≤ cnt f := Fm.ind fun f ih => by
  rw [dep_eq, cnt_eq]
  have := depL_le_cntL_of ih
  omega
theorem preL_length_of {ks : List Fm} (h : ∀ k ∈ ks, (pre k).length = cnt k) : (preL ks).length = cntL ks := by
  induction ks with
  | nil => rfl
  | cons k ks ih =>
    simp only [preL, cntL, List.length_append, h k List.mem_cons_self, ih fun x hx => h x (List.mem_cons_of_mem _ hx)]
theorem pre_length : ∀ f : Fm, (pre f).length = cnt f := Fm.ind fun f ih => by
  rw [pre_eq, cnt_eq, List.length_cons, preL_length_of ih]; omega

/-! ### Equality -/
mutual
def sameB : Fm → Fm → Bool
  | .node o s c n ks, .node o' s' c' n' ks' => decide (o = o') && decide (s = s') && decide (c = c') && decide (n = n') && sameL ks ks'
def sameL : List Fm → List Fm → Bool
  | [], [] => true
  | k :: ks, k' :: ks' => sameB k k' && sameL ks ks'
  | _, _ => false
end

mutual
theorem sameB_iff : ∀ f g : Fm, sameB f g = true ↔ f = g
  | .node o s c n ks, .node o' s' c' n' ks' => by
    simp only [sameB, Bool.and_eq_true, decide_eq_true_eq, sameL_iff ks ks', Fm.node.injEq]
    constructor
    · rintro ⟨⟨⟨⟨a, b⟩, c⟩, d⟩, e⟩; exact ⟨a, b, c, d, e⟩
    · rintro ⟨a, b, c, d, e⟩; exact ⟨⟨⟨⟨a, b⟩, c⟩, d⟩, e⟩
theorem sameL_iff : ∀ a b : List Fm, sameL a b = true ↔ a = b
  | [], [] => by simp [sameL]
  | [], _ :: _ => by simp [sameL]
  | _ :: _, [] => by simp [sameL]
  | k :: ks, k' :: ks' => by simp only [sameL, Bool.and_eq_true, sameB_iff k k', sameL_iff ks ks', List.cons.injEq]
end

instance : DecidableEq Fm := fun f g => if h : sameB f g = true then isTrue ((sameB_iff f g).1 h) else isFalse fun e => h ((sameB_iff f g).2 e)

/-! ### Domains and cases -/
structure Fact where
  name : List UInt8
  kind : Int
  lo : Int
  hi : Int
  deriving DecidableEq

def factOk (f : Fact) : Bool := ((decide (f.kind = 1) && decide (f.lo = 0) && decide (f.hi = 1)) || ((decide (f.kind = 2) || decide (f.kind = 3)) && decide (0 ≤ f.lo) && decide (f.lo ≤ f.hi) && decide (f.hi ≤ 1000000))) && Nm f.name

def idx (F : List Fact) (s : List UInt8) : Option Nat := F.findIdx? fun f => decide (f.name = s)
def idxI (F : List Fact) (s : List UInt8) : Int := match idx F s with | some i => (i : Int) | none => -1

def validD (F : List Fact) : Bool := F.all factOk && decide ((F.map (·.name)).Nodup) && decide (F.length ≤ 60)

def fitsC : List Fact → List Int → Bool
  | [], [] => true
  | f :: F, z :: c => decide (f.lo ≤ z) && decide (z ≤ f.hi) && fitsC F c
  | _, _ => false
def fitsB (F : List Fact) (c : List Int) : Bool := validD F && fitsC F c

/-! ### What is wrong with a formula -/
def formed (f : Fm) : Bool :=
  if (f.op ≠ 3 ∧ (f.cmp ≠ 0 ∨ f.num ≠ 0)) ∨ (f.op ≠ 3 ∧ f.op ≠ 4 ∧ f.name ≠ []) then false
  else if f.op = 1 ∨ f.op = 2 then decide (f.kids.length = 0)
  else if f.op = 3 then decide (f.kids.length = 0) && (Nm f.name && (decide (1 ≤ f.cmp) && decide (f.cmp ≤ 6)))
  else if f.op = 4 then decide (f.kids.length = 0) && Nm f.name
  else if f.op = 5 then decide (f.kids.length = 1)
  else if f.op = 6 ∨ f.op = 7 then decide (2 ≤ f.kids.length)
  else false

def nodeE (F : List Fact) (known : List UInt8 → Bool) (f : Fm) : Nat :=
  if formed f = false then 1
  else if f.op = 3 ∧ (f.num < 0 ∨ f.num > 1000000) then 10
  else if (f.op = 3 ∧ idx F f.name = none) ∨ (f.op = 4 ∧ known f.name = false) then 7
  else 0

def firstE (F : List Fact) (known : List UInt8 → Bool) : List Fm → Nat
  | [] => 0
  | f :: l => if nodeE F known f ≠ 0 then nodeE F known f else firstE F known l

def checkE (F : List Fact) (known : List UInt8 → Bool) (f : Fm) : Nat := if 200 < cnt f ∨ 20 < dep f then 2 else firstE F known (pre f)

theorem firstE_app (F : List Fact) (known : List UInt8 → Bool) (a b : List Fm) : firstE F known (a ++ b) = if firstE F known a ≠ 0 then firstE F known a else firstE F known b := by
  induction a with
  | nil => simp [firstE]
  | cons f a ih =>
    simp only [List.cons_append, firstE]
    by_cases h : nodeE F known f = 0
    · simp [h, ih]
    · simp [h]

/-! ### Does it hold -/
def cmpB (a : Int) (how : Int) (b : Int) : Bool :=
  (decide (how = 1) && decide (a = b)) || (decide (how = 2) && decide (a ≠ b)) || (decide (how = 3) && decide (a < b)) || (decide (how = 4) && decide (a ≤ b)) || (decide (how = 5) && decide (a > b)) || (decide (how = 6) && decide (a ≥ b))

def valAt (F : List Fact) (c : List Int) (s : List UInt8) : Int := match idx F s with | some i => c.getD i 0 | none => 0

mutual
def eval (F : List Fact) (c : List Int) (T : List (List UInt8)) : Fm → Bool
  | .node o s cm n ks =>
    if o = 3 then cmpB (valAt F c s) cm n
    else if o = 4 then T.contains s
    else if o = 5 then !(evalFirst F c T ks)
    else if o = 6 then evalAll F c T ks
    else if o = 7 then evalAny F c T ks
    else decide (o = 1)
def evalFirst (F : List Fact) (c : List Int) (T : List (List UInt8)) : List Fm → Bool
  | [] => false
  | k :: _ => eval F c T k
def evalAll (F : List Fact) (c : List Int) (T : List (List UInt8)) : List Fm → Bool
  | [] => true
  | k :: ks => eval F c T k && evalAll F c T ks
def evalAny (F : List Fact) (c : List Int) (T : List (List UInt8)) : List Fm → Bool
  | [] => false
  | k :: ks => eval F c T k || evalAny F c T ks
end

def holdsB (F : List Fact) (c : List Int) (T : List (List UInt8)) (f : Fm) : Bool := decide (checkE F (fun _ => true) f = 0) && fitsB F c && eval F c T f

/-! ### Terms, replacing -/
def addT (l : List (List UInt8)) (f : Fm) : List (List UInt8) := if f.op = 4 ∧ l.contains f.name = false then l ++ [f.name] else l
def termsOf (f : Fm) : List (List UInt8) := (pre f).foldl addT []

mutual
def expand (s : List UInt8) (by_ : Fm) : Fm → Fm
  | .node o s' c n ks => if o = 4 ∧ s' = s then by_ else .node o s' c n (expandL s by_ ks)
def expandL (s : List UInt8) (by_ : Fm) : List Fm → List Fm
  | [] => []
  | k :: ks => expand s by_ k :: expandL s by_ ks
end
theorem expandL_map (s : List UInt8) (by_ : Fm) (ks : List Fm) : expandL s by_ ks = ks.map (expand s by_) := by
  induction ks with
  | nil => rfl
  | cons k ks ih => simp only [expandL, List.map_cons, ih]
theorem expand_eq (s : List UInt8) (by_ f : Fm) : expand s by_ f = if f.op = 4 ∧ f.name = s then by_ else .node f.op f.name f.cmp f.num (f.kids.map (expand s by_)) := by
  cases f with
  | node o s' c n ks =>
    simp only [expand, expandL_map, Fm.op, Fm.name, Fm.cmp, Fm.num, Fm.kids]
    by_cases h : o = 4 ∧ s' = s <;> simp [h]
end Go.Fo

/-
  Rulings and spans, in plain Lean: no program in sight.
-/
set_option linter.unusedVariables false
set_option linter.unusedSimpArgs false
set_option linter.unnecessarySimpa false
set_option maxRecDepth 10000
namespace Go.Rul
open Go.Lexs Go.Fin Go.Fo

structure Rul where
  id : List UInt8
  tgt : List UInt8
  kind : Int
  fro : Int
  til : Int
  read : Fm
  known : Int
  fin : Bool
  lifts : List UInt8

structure Spn where
  fro : Int
  til : Int
  read : Fm

def dayB (n : Int) : Bool := decide (0 ≤ n ∧ n ≤ 1000000)
def validB (r : Rul) : Bool :=
  Nm r.id && Nm r.tgt && dayB r.fro && dayB r.til && dayB r.known &&
    (if r.kind = 6 then Nm r.lifts else if r.kind = 4 then decide (r.lifts = []) && decide (r.fro < r.til)
     else if r.kind = 5 then decide (r.lifts = []) && decide (cnt r.read ≤ 200 ∧ dep r.read ≤ 20)
     else if r.kind = 1 ∨ r.kind = 2 ∨ r.kind = 3 then decide (r.lifts = []) else false)

/-! ### Which ones count -/
def finalB (l : List Rul) (known : Int) (s : List UInt8) : Bool := l.any fun r => decide (r.id = s) && (r.fin && decide (r.known ≤ known))

structure Bk where
  lifted : List (List UInt8)
  out : List Rul

def step (fn : List UInt8 → Bool) (known : Int) (r : Rul) (g : Bk) : Bk :=
  if known < r.known ∨ (r.kind = 6 ∧ fn r.lifts = true) ∨ r.id ∈ g.lifted then g
  else ⟨if r.kind = 6 then r.lifts :: g.lifted else g.lifted, r :: g.out⟩
def back (fn : List UInt8 → Bool) (known : Int) (l : List Rul) : Bk := l.foldr (step fn known) ⟨[], []⟩
def counting (l : List Rul) (known : Int) : List Rul := (back (finalB l known) known l).out

structure Ans where
  out : List Rul
  err : Nat

def idsNodup (l : List Rul) : Bool := decide ((l.map (·.id)).Nodup)
def countB (l : List Rul) (known : Int) : Ans :=
  if dayB known = false then ⟨[], 1⟩ else if 200 < l.length then ⟨[], 2⟩ else if l.all validB = false then ⟨[], 1⟩ else if idsNodup l = false then ⟨[], 9⟩ else ⟨counting l known, 0⟩

/-! ### What a ruling leaves -/
def keep (s : Spn) (a b : Int) (read : Fm) : List Spn :=
  let t : Int := if b ≠ -1 ∧ (s.til = -1 ∨ b < s.til) then b else s.til
  if t = -1 ∨ max s.fro a < t then [⟨max s.fro a, t, read⟩] else []

def both2 (f g : Fm) : Fm := .node 6 [] 0 0 [f, g]
def readOf (s : Spn) (r : Rul) : Fm := if s.read.op = 1 then r.read else both2 s.read r.read
def kindOf (r : Rul) : Int := if dayB r.fro && dayB r.til then r.kind else 0
def one1 (k : Int) (r : Rul) (s : Spn) : List Spn :=
  if s.til ≠ -1 ∧ s.til ≤ s.fro then []
  else if k = 1 then []
  else if k = 2 then keep s s.fro r.fro s.read
  else if k = 3 then keep s s.fro r.til s.read
  else if k = 4 then keep s s.fro r.fro s.read ++ keep s r.til (-1) s.read
  else if k = 5 then keep s s.fro r.fro s.read ++ keep s r.fro (-1) (readOf s r)
  else keep s s.fro (-1) s.read
def applyB (l : List Spn) (r : Rul) : List Spn := l.flatMap (one1 (kindOf r) r)

/-! ### Looking up, comparing -/
def onB : List Spn → Int → Option Spn
  | [], _ => none
  | s :: l, n => if s.fro ≤ n ∧ (s.til = -1 ∨ n < s.til) then some s else onB l n
def smallR (r : Rul) : Bool := decide (cnt r.read ≤ 250 ∧ r.id.length ≤ 100 ∧ r.tgt.length ≤ 100 ∧ r.lifts.length ≤ 100)
def fewB (l : List Rul) (n : Nat) : Bool := decide (l.length ≤ n ∧ ∀ r ∈ l, smallR r = true)
def shortB (l : List Spn) (n : Nat) : Bool := decide (l.length ≤ n ∧ ∀ s ∈ l, cnt s.read ≤ 250)

instance : DecidableEq Rul := fun a b => by
  cases a; cases b
  rw [Rul.mk.injEq]
  exact inferInstance
instance : DecidableEq Spn := fun a b => by
  cases a; cases b
  rw [Spn.mk.injEq]
  exact inferInstance

def takesB (r : Rul) (day : Int) : Bool :=
  if r.kind = 1 then true else if r.kind = 2 then decide (r.fro ≤ day) else if r.kind = 3 then decide (r.til ≤ day) else if r.kind = 4 then decide (r.fro ≤ day ∧ day < r.til) else false
def orderedB : List Spn → Bool
  | [] => true
  | s :: l => !(decide (s.til ≠ -1 ∧ s.til ≤ s.fro)) && (match l with | [] => true | t :: _ => decide (s.til ≠ -1 ∧ s.til ≤ t.fro)) && orderedB l
end Go.Rul

/-
  Rulings: the laws, in plain Lean.
-/
set_option linter.unusedVariables false
set_option linter.unusedSimpArgs false
set_option linter.unnecessarySimpa false
set_option maxRecDepth 10000
namespace Go.Rul
open Go.Lexs Go.Fin Go.Fo

/-! ### Days -/
def cov (s : Spn) (n : Int) : Prop := s.fro ≤ n ∧ (s.til = -1 ∨ n < s.til)
instance (s : Spn) (n : Int) : Decidable (cov s n) := by unfold cov; exact inferInstance
theorem onB_some : ∀ {l : List Spn} {n : Int}, (onB l n).isSome = true ↔ ∃ s ∈ l, cov s n
  | [], n => by simp [onB]
  | s :: l, n => by
    unfold onB
    by_cases h : s.fro ≤ n ∧ (s.til = -1 ∨ n < s.til)
    · rw [if_pos h]
      simp only [Option.isSome_some, true_iff]
      exact ⟨s, List.mem_cons_self, h⟩
    · rw [if_neg h, onB_some]
      simp only [List.mem_cons, exists_eq_or_imp]
      exact ⟨.inr, fun h' => h'.resolve_left h⟩
theorem keep_cov {s : Spn} {a b n : Int} {f : Fm} (hb : -1 ≤ b) : (∃ t ∈ keep s a b f, cov t n) ↔ cov s n ∧ a ≤ n ∧ (b = -1 ∨ n < b) := by
  unfold keep cov
  by_cases h1 : b ≠ -1 ∧ (s.til = -1 ∨ b < s.til)
  · simp only [if_pos h1]
    split
    · simp only [List.mem_singleton, exists_eq_left]; omega
    · simp only [List.not_mem_nil, false_and, exists_false, false_iff]; omega
  · simp only [if_neg h1]
    split
    · simp only [List.mem_singleton, exists_eq_left]; omega
    · simp only [List.not_mem_nil, false_and, exists_false, false_iff]; omega
theorem dayB_iff {n : Int} : dayB n = true ↔ 0 ≤ n ∧ n ≤ 1000000 := by unfold dayB; rw [decide_eq_true_eq]
theorem valid_days {r : Rul} (h : validB r = true) : (0 ≤ r.fro ∧ r.fro ≤ 1000000) ∧ (0 ≤ r.til ∧ r.til ≤ 1000000) ∧ (0 ≤ r.known ∧ r.known ≤ 1000000) ∧ (r.kind = 4 → r.fro < r.til) ∧ 1 ≤ r.kind ∧ r.kind ≤ 6 := by
  unfold validB at h
  simp only [Bool.and_eq_true, dayB_iff] at h
  obtain ⟨⟨⟨⟨⟨-, -⟩, h1⟩, h2⟩, h3⟩, h4⟩ := h
  refine ⟨h1, h2, h3, ?_, ?_⟩
  · intro h
    rw [h] at h4
    simp at h4
    exact h4.2
  · split at h4
    · omega
    · split at h4
      · omega
      · split at h4
        · omega
        · split at h4
          · omega
          · cases h4
theorem kind_valid {r : Rul} (h : validB r = true) : kindOf r = r.kind := by
  obtain ⟨h1, h2, -⟩ := valid_days h
  unfold kindOf
  rw [dayB_iff.2 h1, dayB_iff.2 h2]; rfl
theorem ex_append {p : Spn → Prop} {a b : List Spn} : (∃ t ∈ a ++ b, p t) ↔ (∃ t ∈ a, p t) ∨ ∃ t ∈ b, p t := by
  simp only [List.mem_append, or_and_right, exists_or]
theorem one_cov {r : Rul} (h : validB r = true) (s : Spn) (n : Int) : (∃ t ∈ one1 r.kind r s, cov t n) ↔ cov s n ∧ takesB r n = false := by
  obtain ⟨h1, h2, -, h4, -⟩ := valid_days h
  have he : s.til ≠ -1 ∧ s.til ≤ s.fro → ¬ cov s n := fun h h' => by unfold cov at h'; omega
  unfold one1 takesB
  by_cases hs : s.til ≠ -1 ∧ s.til ≤ s.fro
  · rw [if_pos hs]
    simp only [List.not_mem_nil, false_and, exists_false, false_iff]
    exact fun h => he hs h.1
  rw [if_neg hs]
  have hc : cov s n → s.fro ≤ n := fun h => h.1
  by_cases k1 : r.kind = 1
  · simp [k1]
  by_cases k2 : r.kind = 2
  · rw [if_neg k1, if_pos k2, if_neg k1, if_pos k2, keep_cov (by omega), decide_eq_false_iff_not]
    constructor
    · rintro ⟨a, b, c⟩; exact ⟨a, by omega⟩
    · rintro ⟨a, b⟩; exact ⟨a, hc a, by omega⟩
  by_cases k3 : r.kind = 3
  · rw [if_neg k1, if_neg k2, if_pos k3, if_neg k1, if_neg k2, if_pos k3, keep_cov (by omega), decide_eq_false_iff_not]
    constructor
    · rintro ⟨a, b, c⟩; exact ⟨a, by omega⟩
    · rintro ⟨a, b⟩; exact ⟨a, hc a, by omega⟩
  by_cases k4 : r.kind = 4
  · have := h4 k4
    rw [if_neg k1, if_neg k2, if_neg k3, if_pos k4, if_neg k1, if_neg k2, if_neg k3, if_pos k4, ex_append, keep_cov (by omega), keep_cov (by omega), decide_eq_false_iff_not]
    constructor
    · rintro (⟨a, b, c⟩ | ⟨a, b, c⟩) <;> exact ⟨a, by omega⟩
    · rintro ⟨a, b⟩
      by_cases h : n < r.fro
      · exact .inl ⟨a, hc a, by omega⟩
      · exact .inr ⟨a, by omega, by omega⟩
  rw [if_neg k1, if_neg k2, if_neg k3, if_neg k4, if_neg k1, if_neg k2, if_neg k3, if_neg k4]
  by_cases k5 : r.kind = 5
  · rw [if_pos k5, ex_append, keep_cov (by omega), keep_cov (by omega)]
    constructor
    · rintro (⟨a, b, c⟩ | ⟨a, b, c⟩) <;> exact ⟨a, rfl⟩
    · rintro ⟨a, -⟩
      by_cases h : n < r.fro
      · exact .inl ⟨a, hc a, by omega⟩
      · exact .inr ⟨a, by omega, by omega⟩
  · rw [if_neg k5, keep_cov (by omega)]
    constructor
    · rintro ⟨a, -⟩; exact ⟨a, rfl⟩
    · rintro ⟨a, -⟩; exact ⟨a, hc a, .inl rfl⟩
theorem apply_on {r : Rul} (h : validB r = true) (l : List Spn) (n : Int) : (onB (applyB l r) n).isSome = ((onB l n).isSome && !takesB r n) := by
  rw [Bool.eq_iff_iff, Bool.and_eq_true, onB_some, onB_some, Bool.not_eq_true']
  unfold applyB
  rw [kind_valid h]
  simp only [List.mem_flatMap]
  constructor
  · rintro ⟨t, ⟨s, hs, ht⟩, hc⟩
    obtain ⟨h1, h2⟩ := (one_cov h s n).1 ⟨t, ht, hc⟩
    exact ⟨⟨s, hs, h1⟩, h2⟩
  · rintro ⟨⟨s, hs, hc⟩, h2⟩
    obtain ⟨t, ht, hc'⟩ := (one_cov h s n).2 ⟨hc, h2⟩
    exact ⟨t, ⟨s, hs, ht⟩, hc'⟩
def afterB (l : List Spn) (rs : List Rul) : List Spn := rs.foldl applyB l
theorem after_on (n : Int) : ∀ (rs : List Rul) (l : List Spn), (∀ r ∈ rs, validB r = true) → (onB (afterB l rs) n).isSome = ((onB l n).isSome && rs.all fun r => !takesB r n)
  | [], l, _ => by simp [afterB]
  | r :: rs, l, h => by
    show (onB (afterB (applyB l r) rs) n).isSome = _
    rw [after_on n rs _ fun x hx => h x (List.mem_cons_of_mem _ hx), apply_on (h r List.mem_cons_self), List.all_cons, Bool.and_assoc]
theorem order_law (n : Int) (l : List Spn) (rs : List Rul) (h : ∀ r ∈ rs, validB r = true) : (onB (afterB l rs.reverse) n).isSome = (onB (afterB l rs) n).isSome ∧ (onB (afterB l (rs ++ rs.reverse)) n).isSome = (onB (afterB l rs) n).isSome := by
  rw [after_on n rs l h, after_on n rs.reverse l fun r hr => h r (List.mem_reverse.1 hr), after_on n (rs ++ rs.reverse) l fun r hr => (List.mem_append.1 hr).elim (h r) fun hr => h r (List.mem_reverse.1 hr)]
  rw [List.all_append, List.all_reverse, Bool.and_self]
  exact ⟨rfl, rfl⟩

/-! ### In order -/
def Ord : Int → List Spn → Prop
  | _, [] => True
  | lo, s :: l => lo ≤ s.fro ∧ (s.til ≠ -1 → s.fro < s.til) ∧ (s.til = -1 → l = []) ∧ Ord s.til l
theorem Ord.mono {lo lo' : Int} {l : List Spn} (h : Ord lo l) (hl : lo' ≤ lo) : Ord lo' l := by
  cases l with
  | nil => trivial
  | cons s l => obtain ⟨h1, h2⟩ := h; exact ⟨by omega, h2⟩
theorem ordered_iff : ∀ {l : List Spn}, orderedB l = true ↔ ∃ lo, Ord lo l
  | [] => by simp [orderedB, Ord]
  | [s] => by
    simp only [orderedB, Ord, Bool.and_true, Bool.and_eq_true, Bool.not_eq_true', decide_eq_false_iff_not, implies_true, and_true, true_and]
    exact ⟨fun h => ⟨s.fro, by omega, by omega⟩, fun ⟨lo, h⟩ => by omega⟩
  | s :: t :: l => by
    have ih := @ordered_iff (t :: l)
    rw [orderedB, Bool.and_eq_true, Bool.and_eq_true, ih]
    simp only [Bool.not_eq_true', decide_eq_false_iff_not, decide_eq_true_eq]
    constructor
    · rintro ⟨⟨h1, h2⟩, lo, h3⟩
      refine ⟨s.fro, by omega, by omega, fun h => by omega, ?_⟩
      obtain ⟨h4, h5⟩ := h3
      exact ⟨h2.2, h5⟩
    · rintro ⟨lo, h1, h2, h3, h4⟩
      have hne : s.til ≠ -1 := fun h => by cases h3 h
      exact ⟨⟨by omega, hne, h4.1⟩, _, h4⟩
theorem Ord.keep1 {s : Spn} {a b lo : Int} {f : Fm} {l : List Spn} (hb : -1 ≤ b) (hlo : lo ≤ s.fro) (hs : s.til ≠ -1 → s.fro < s.til) (h1 : s.til = -1 → l = []) (hl : Ord s.til l) : Ord lo (keep s a b f ++ l) := by
  unfold keep
  by_cases hc : b ≠ -1 ∧ (s.til = -1 ∨ b < s.til)
  · simp only [if_pos hc]
    split
    · refine ⟨by simp only; omega, fun _ => by simp only; omega, fun h => by simp only at h; omega, ?_⟩
      by_cases ht : s.til = -1
      · rw [h1 ht]; trivial
      · exact hl.mono (by simp only; omega)
    · by_cases ht : s.til = -1
      · rw [h1 ht]; trivial
      · exact hl.mono (by have := hs ht; omega)
  · simp only [if_neg hc]
    split
    · exact ⟨by simp only; omega, fun _ => by simp only at *; omega, fun h => h1 h, hl⟩
    · by_cases ht : s.til = -1
      · rw [h1 ht]; trivial
      · exact hl.mono (by have := hs ht; omega)
theorem Ord.keep2 {s : Spn} {a b lo : Int} {f g : Fm} {l : List Spn} (hb : 0 ≤ b) (hab : b ≤ a) (hlo : lo ≤ s.fro) (hs : s.til ≠ -1 → s.fro < s.til) (h1 : s.til = -1 → l = []) (hl : Ord s.til l) : Ord lo ((keep s s.fro b f ++ keep s a (-1) g) ++ l) := by
  have hin : ∀ x, x ≤ max s.fro a → (s.til ≠ -1 → x ≤ s.til) → Ord x (keep s a (-1) g ++ l) := by
    intro x hx hx2
    unfold keep
    simp only [if_neg (show ¬ (((-1 : Int) ≠ -1) ∧ (s.til = -1 ∨ (-1 : Int) < s.til)) by omega)]
    split
    · exact ⟨by simp only; omega, fun _ => by simp only at *; omega, fun h => h1 h, hl⟩
    · by_cases ht : s.til = -1
      · rw [h1 ht]; trivial
      · exact hl.mono (hx2 ht)
  rw [List.append_assoc]
  have hm : s.fro ≤ max s.fro a ∧ a ≤ max s.fro a := by omega
  generalize keep s a (-1) g ++ l = rest at hin ⊢
  unfold keep
  by_cases hc : b ≠ -1 ∧ (s.til = -1 ∨ b < s.til)
  · simp only [if_pos hc]
    split
    · exact ⟨by simp only; omega, fun _ => by simp only; omega, fun h => by simp only at h; omega, hin _ (by simp only; omega) (by simp only; omega)⟩
    · exact hin _ (by omega) (by omega)
  · simp only [if_neg hc]
    split
    · refine ⟨by simp only; omega, fun _ => by simp only at *; omega, fun h => ?_, hin _ (by simp only; omega) (by simp only; omega)⟩
      simp only at h; omega
    · exact hin _ (by omega) (by omega)
theorem one_ord {r : Rul} (h : validB r = true) {s : Spn} {lo : Int} {l : List Spn} (hlo : lo ≤ s.fro) (hs : s.til ≠ -1 → s.fro < s.til) (h1 : s.til = -1 → l = []) (hl : Ord s.til l) : Ord lo (one1 r.kind r s ++ l) := by
  obtain ⟨d1, d2, -, d4, -⟩ := valid_days h
  unfold one1
  rw [if_neg (by omega)]
  split
  · by_cases ht : s.til = -1
    · rw [h1 ht]; trivial
    · exact hl.mono (by have := hs ht; omega)
  split
  · exact Ord.keep1 (by omega) hlo hs h1 hl
  split
  · exact Ord.keep1 (by omega) hlo hs h1 hl
  split
  · rename_i h4
    exact Ord.keep2 (by omega) (by have := d4 h4; omega) hlo hs h1 hl
  split
  · exact Ord.keep2 (by omega) (by omega) hlo hs h1 hl
  · exact Ord.keep1 (by omega) hlo hs h1 hl
theorem flat_ord {r : Rul} (h : validB r = true) : ∀ {l : List Spn} {lo : Int}, Ord lo l → Ord lo (l.flatMap (one1 r.kind r))
  | [], _, _ => trivial
  | s :: l, lo, ⟨h1, h2, h3, h4⟩ => by
    rw [List.flatMap_cons]
    refine one_ord h h1 h2 (fun ht => ?_) (flat_ord h h4)
    rw [h3 ht]; rfl
theorem ordered_law {r : Rul} (h : validB r = true) {l : List Spn} (hl : orderedB l = true) : orderedB (applyB l r) = true := by
  obtain ⟨lo, ho⟩ := ordered_iff.1 hl
  unfold applyB
  rw [kind_valid h]
  exact ordered_iff.2 ⟨lo, flat_ord h ho⟩

/-! ### Which ones count -/
theorem back_cons (fn : List UInt8 → Bool) (known : Int) (r : Rul) (l : List Rul) : back fn known (r :: l) = step fn known r (back fn known l) := rfl
theorem out_sub (fn : List UInt8 → Bool) (known : Int) : ∀ l : List Rul, (back fn known l).out.Sublist l
  | [] => .slnil
  | r :: l => by
    rw [back_cons]
    unfold step
    split
    · exact (out_sub fn known l).cons r
    · exact (out_sub fn known l).cons_cons r
theorem counting_sub (l : List Rul) (known : Int) : (counting l known).Sublist l := out_sub _ _ _
theorem out_known (fn : List UInt8 → Bool) (known : Int) : ∀ (l : List Rul), ∀ r ∈ (back fn known l).out, r.known ≤ known
  | [], r, h => nomatch h
  | x :: l, r, h => by
    rw [back_cons] at h
    unfold step at h
    split at h
    · exact out_known fn known l r h
    · rename_i hx
      rcases List.mem_cons.1 h with rfl | h
      · omega
      · exact out_known fn known l r h
theorem lifted_iff (fn : List UInt8 → Bool) (known : Int) (s : List UInt8) : ∀ l : List Rul, s ∈ (back fn known l).lifted ↔ ∃ r ∈ (back fn known l).out, r.kind = 6 ∧ r.lifts = s
  | [] => by simp [back]
  | x :: l => by
    rw [back_cons]
    have ih := lifted_iff fn known s l
    unfold step
    split
    · exact ih
    · simp only [List.mem_cons, exists_eq_or_imp]
      by_cases h6 : x.kind = 6
      · rw [if_pos h6, List.mem_cons, ih]
        constructor
        · rintro (rfl | h)
          · exact .inl ⟨h6, rfl⟩
          · exact .inr h
        · rintro (⟨-, rfl⟩ | h)
          · exact .inl rfl
          · exact .inr h
      · rw [if_neg h6, ih]
        exact ⟨.inr, fun h => h.resolve_left fun h => h6 h.1⟩
theorem back_congr {fn fn' : List UInt8 → Bool} (known : Int) (h : ∀ s, fn s = fn' s) (l : List Rul) : back fn known l = back fn' known l := by
  have : fn = fn' := funext h
  rw [this]
/-- Rulings that are not known do not matter. -/
theorem back_filter (fn : List UInt8 → Bool) (known : Int) (p : Rul → Bool) (hp : ∀ r, r.known ≤ known → p r = true) : ∀ l : List Rul, back fn known (l.filter p) = back fn known l
  | [] => rfl
  | r :: l => by
    by_cases h : p r = true
    · rw [List.filter_cons_of_pos h, back_cons, back_cons, back_filter fn known p hp l]
    · rw [List.filter_cons_of_neg h, back_cons, back_filter fn known p hp l]
      have : known < r.known := by
        rcases Int.lt_or_le known r.known with h' | h'
        · exact h'
        · exact absurd (hp r h') h
      unfold step
      rw [if_pos (.inl this)]
theorem finalB_filter (l : List Rul) (known : Int) (p : Rul → Bool) (hp : ∀ r, r.known ≤ known → p r = true) (s : List UInt8) : finalB (l.filter p) known s = finalB l known s := by
  unfold finalB
  rw [Bool.eq_iff_iff, List.any_eq_true, List.any_eq_true]
  constructor
  · rintro ⟨r, h1, h2⟩; exact ⟨r, (List.mem_filter.1 h1).1, h2⟩
  · rintro ⟨r, h1, h2⟩
    simp only [Bool.and_eq_true, decide_eq_true_eq] at h2
    exact ⟨r, List.mem_filter.2 ⟨h1, hp r h2.2.2⟩, by simp [h2]⟩
theorem counting_filter (l : List Rul) (known : Int) (p : Rul → Bool) (hp : ∀ r, r.known ≤ known → p r = true) : counting (l.filter p) known = counting l known := by
  unfold counting
  rw [back_congr known (finalB_filter l known p hp), back_filter _ known p hp]
theorem countB_ok {l : List Rul} {known : Int} : (countB l known).err = 0 ↔ dayB known = true ∧ l.length ≤ 200 ∧ (∀ r ∈ l, validB r = true) ∧ (l.map (·.id)).Nodup := by
  unfold countB idsNodup
  rw [← List.all_eq_true]
  constructor
  · intro h
    split at h
    · cases h
    split at h
    · cases h
    split at h
    · cases h
    split at h
    · cases h
    rename_i h1 h2 h3 h4
    exact ⟨by simpa using h1, by omega, by simpa using h3, by simpa using h4⟩
  · rintro ⟨h1, h2, h3, h4⟩
    rw [if_neg (by simp [h1]), if_neg (by omega), if_neg (by simp [h3]), if_neg (by simp [h4])]
theorem countB_out {l : List Rul} {known : Int} (h : (countB l known).err = 0) : (countB l known).out = counting l known := by
  obtain ⟨h1, h2, h3, h4⟩ := countB_ok.1 h
  unfold countB idsNodup
  rw [← List.all_eq_true] at h3
  rw [if_neg (by simp [h1]), if_neg (by omega), if_neg (by simp [h3]), if_neg (by simp [h4])]
theorem known_law {l : List Rul} {a b : Int} (hab : a ≤ b) (h : (countB l a).err = 0) : (countB (l.filter fun r => decide (r.known ≤ b)) a).err = 0 ∧ (countB (l.filter fun r => decide (r.known ≤ b)) a).out = (countB l a).out := by
  obtain ⟨h1, h2, h3, h4⟩ := countB_ok.1 h
  have hok : (countB (l.filter fun r => decide (r.known ≤ b)) a).err = 0 := countB_ok.2 ⟨h1, Nat.le_trans (List.length_filter_le _ _) h2, fun r hr => h3 r (List.mem_filter.1 hr).1, (List.filter_sublist.map _).nodup h4⟩
  refine ⟨hok, ?_⟩
  rw [countB_out hok, countB_out h, counting_filter]
  intro r hr
  exact decide_eq_true (by omega)

/-- A further ruling at the end. -/
theorem back_snoc (fn : List UInt8 → Bool) (known : Int) (l : List Rul) (r : Rul) (hr : r.kind ≠ 6) (hid : True) : (back fn known (l ++ [r])).out = (back fn known l).out ++ (if known < r.known then [] else [r]) ∧ (back fn known (l ++ [r])).lifted = (back fn known l).lifted := by
  have h0 : back fn known [r] = ⟨[], if known < r.known then [] else [r]⟩ := by
    show step fn known r ⟨[], []⟩ = _
    unfold step
    by_cases h : known < r.known
    · rw [if_pos (.inl h), if_pos h]
    · rw [if_neg, if_neg h, if_neg hr]
      rintro (h' | h' | h')
      · exact h h'
      · exact hr h'.1
      · cases h'
  induction l with
  | nil => rw [List.nil_append, h0]; exact ⟨rfl, rfl⟩
  | cons x l ih =>
    rw [List.cons_append, back_cons, back_cons]
    unfold step
    rw [ih.2]
    split
    · exact ih
    · exact ⟨by rw [ih.1]; rfl, rfl⟩
theorem snoc_law {l : List Rul} {a : Int} {r : Rul} (h : (countB l a).err = 0) (h' : (countB (l ++ [r]) a).err = 0) (hk : r.kind ≠ 6) (hf : r.fin = false) : ∃ e, (countB (l ++ [r]) a).out = (countB l a).out ++ e ∧ e.length ≤ 1 := by
  rw [countB_out h, countB_out h']
  unfold counting
  have hfn : ∀ s, finalB (l ++ [r]) a s = finalB l a s := fun s => by
    unfold finalB
    rw [List.any_append]
    simp [hf]
  rw [back_congr a hfn, (back_snoc _ a l r hk trivial).1]
  refine ⟨_, rfl, ?_⟩
  split <;> simp
end Go.Rul
