/-
  Tokens of a text, in plain Lean: no program in sight.
-/
set_option linter.unusedVariables false
namespace Go.Lexs

def isLetter (c : UInt8) : Bool := (97 ≤ c && c ≤ 122) || (65 ≤ c && c ≤ 90)
def isDigit (c : UInt8) : Bool := 48 ≤ c && c ≤ 57

/-- The class of a byte. -/
def cls (c : UInt8) : Nat :=
  if isLetter c then 3 else if isDigit c then 4 else if c = 32 ∨ c = 9 ∨ c = 10 then 1 else if c = 35 then 2 else if c = 95 then 5
  else if c ∈ [59, 44, 46, 58, 40, 41, 91, 93, 123, 125, 61] then 6 else if c = 60 ∨ c = 62 then 7 else if c = 33 then 8 else 0

def isWord (c : UInt8) : Bool := cls c == 3 || cls c == 4 || cls c == 5

/-- The class of what stands at the head. -/
def hd (s : List UInt8) : Nat := match s with
  | [] => 0
  | c :: _ => cls c

/-- What is left behind gaps; true: within a comment. -/
def skip : Bool → List UInt8 → List UInt8
  | _, [] => []
  | true, c :: s => if c = 10 then skip false s else skip true s
  | false, c :: s => if cls c = 1 then skip false s else if cls c = 2 then skip true s else c :: s

def spanLen (p : UInt8 → Bool) : List UInt8 → Nat
  | [] => 0
  | c :: s => if p c then spanLen p s + 1 else 0

def value (s : List UInt8) : Nat := s.foldl (fun n c => 10 * n + (c.toNat - 48)) 0

/-- One token at the head: its kind, length, number, error. -/
structure One where
  kind : Nat
  len : Nat
  num : Nat
  err : Nat

def one (s : List UInt8) : One :=
  match hd s with
  | 3 => let k := spanLen isWord s; ⟨1, k, 0, if 24 < k then 2 else 0⟩
  | 4 => let k := spanLen isDigit s
         if 7 < k ∨ hd (s.drop k) = 3 ∨ hd (s.drop k) = 5 then ⟨2, k, 0, 4⟩ else ⟨2, k, value (s.take k), 0⟩
  | 6 => ⟨3, 1, 0, 0⟩
  | 7 => ⟨3, if s[1]? = some 61 then 2 else 1, 0, 0⟩
  | 8 => if s[1]? = some 61 then ⟨3, 2, 0, 0⟩ else ⟨3, 1, 0, 3⟩
  | _ => ⟨0, 0, 0, 3⟩

structure Tok where
  kind : Nat
  text : List UInt8
  num : Nat
  pos : Nat
  deriving DecidableEq

structure Found where
  tok : Tok
  err : Nat

def found (at_ : Nat) (s : List UInt8) : Found := ⟨⟨(one s).kind, s.take (one s).len, (one s).num, at_⟩, (one s).err⟩

/-- What is yielded from a place on. -/
def founds : Nat → Nat → List UInt8 → List Found
  | 0, _, _ => []
  | f + 1, at_, s =>
    match skip false s with
    | [] => []
    | c :: s' =>
      let p := at_ + (s.length - (c :: s').length)
      found p (c :: s') :: if (one (c :: s')).err = 0 then founds f (p + (one (c :: s')).len) ((c :: s').drop (one (c :: s')).len) else []

/-- The answer of Lex: tokens; or an error and its offset. -/
inductive Res where
  | ok (l : List Tok)
  | bad (e : Nat) (off : Int)

def gather : List Tok → List Found → Res
  | acc, [] => .ok acc
  | acc, f :: fs => if f.err ≠ 0 then .bad f.err f.tok.pos else if acc.length = 5000 then .bad 2 f.tok.pos else gather (acc ++ [f.tok]) fs

def lex (s : List UInt8) : Res := if 20000 < s.length then .bad 2 (-1) else gather [] (founds s.length 0 s)

/-! ### First facts -/

theorem skip_length : ∀ (b : Bool) (s : List UInt8), (skip b s).length ≤ s.length
  | _, [] => by simp [skip]
  | true, c :: s => by
    simp only [skip]; split
    · exact Nat.le_trans (skip_length false s) (by simp)
    · exact Nat.le_trans (skip_length true s) (by simp)
  | false, c :: s => by
    simp only [skip]; split
    · exact Nat.le_trans (skip_length false s) (by simp)
    · split
      · exact Nat.le_trans (skip_length true s) (by simp)
      · exact Nat.le_refl _

theorem skip_suffix : ∀ (b : Bool) (s : List UInt8), skip b s <:+ s
  | _, [] => by simp [skip]
  | true, c :: s => by
    simp only [skip]; split
    · exact (skip_suffix false s).trans (List.suffix_cons c s)
    · exact (skip_suffix true s).trans (List.suffix_cons c s)
  | false, c :: s => by
    simp only [skip]; split
    · exact (skip_suffix false s).trans (List.suffix_cons c s)
    · split
      · exact (skip_suffix true s).trans (List.suffix_cons c s)
      · exact List.suffix_rfl

theorem skip_head {s s' : List UInt8} {c : UInt8} : ∀ (b : Bool) (s : List UInt8), skip b s = c :: s' → cls c ≠ 1 ∧ cls c ≠ 2
  | _, [], h => by simp [skip] at h
  | true, d :: s, h => by
    simp only [skip] at h; split at h
    · exact skip_head (s := s) false s h
    · exact skip_head (s := s) true s h
  | false, d :: s, h => by
    simp only [skip] at h; split at h
    · exact skip_head (s := s) false s h
    · rename_i h1
      split at h
      · exact skip_head (s := s) true s h
      · rename_i h2
        simp only [List.cons.injEq] at h
        obtain ⟨rfl, rfl⟩ := h
        exact ⟨h1, h2⟩

/-- Two places from which the same is left. -/
theorem founds_congr {f a1 a2 : Nat} {s1 s2 : List UInt8} (h : skip false s1 = skip false s2) (ha : a1 + s1.length = a2 + s2.length) (h1 : s1.length ≤ f) (h2 : s2.length ≤ f) : founds f a1 s1 = founds f a2 s2 := by
  cases f with
  | zero => rfl
  | succ f =>
    simp only [founds]
    rw [h]
    have hl1 := skip_length false s1
    have hl2 := skip_length false s2
    rw [h] at hl1
    cases hs : skip false s2 with
    | nil => rfl
    | cons c s' =>
      rw [hs] at hl1 hl2
      have : a1 + (s1.length - (c :: s').length) = a2 + (s2.length - (c :: s').length) := by omega
      simp only [this]

theorem spanLen_le (p : UInt8 → Bool) : ∀ (s : List UInt8), spanLen p s ≤ s.length
  | [] => by simp [spanLen]
  | c :: s => by
    simp only [spanLen]; split
    · have := spanLen_le p s; simp; omega
    · simp

theorem one_len_le (s : List UInt8) (h : s ≠ []) : (one s).len ≤ s.length := by
  have h1 := spanLen_le isWord s
  have h2 := spanLen_le isDigit s
  have h3 : 0 < s.length := List.length_pos_iff.2 h
  have h4 : s[1]? = some 61 → 2 ≤ s.length := fun hh => by
    have := (List.getElem?_eq_some_iff.1 hh).1; omega
  unfold one
  split
  · exact h1
  · simp only; split <;> exact h2
  · exact h3
  · simp only; split
    · rename_i hh; exact h4 hh
    · exact h3
  · split
    · rename_i hh; exact h4 hh
    · exact h3
  · exact Nat.zero_le _

/-- A token without an error has a length. -/
theorem one_len_pos (s : List UInt8) (h : (one s).err = 0) : 0 < (one s).len := by
  cases s with
  | nil => simp [one, hd] at h
  | cons c s =>
    unfold one at h ⊢
    split
    · rename_i hh
      simp only [hd] at hh
      have : isWord c = true := by simp [isWord, hh]
      simp [spanLen, this]
    · rename_i hh
      simp only [hd] at hh
      have : isDigit c = true := by
        unfold cls at hh
        split at hh
        · cases hh
        · split at hh
          · assumption
          · repeat (split at hh; · cases hh)
            cases hh
      have hp : 0 < spanLen isDigit (c :: s) := by simp [spanLen, this]
      simp only; split <;> exact hp
    · decide
    · simp only; split <;> decide
    · split <;> simp
    · rename_i h3 h4 h5 h6 h7
      split at h <;> simp_all

/-- More fuel changes nothing. -/
theorem founds_fuel : ∀ (f g a : Nat) (s : List UInt8), s.length ≤ f → s.length ≤ g → founds f a s = founds g a s
  | 0, g, a, s, h, _ => by
    have : s = [] := List.eq_nil_of_length_eq_zero (by omega)
    subst this
    cases g <;> simp [founds, skip]
  | f + 1, 0, a, s, _, h => by
    have : s = [] := List.eq_nil_of_length_eq_zero (by omega)
    subst this
    simp [founds, skip]
  | f + 1, g + 1, a, s, h1, h2 => by
    simp only [founds]
    have hl := skip_length false s
    cases hs : skip false s with
    | nil => rfl
    | cons c s' =>
      rw [hs] at hl
      simp only
      congr 1
      split
      · rename_i he
        have hp := one_len_pos (c :: s') he
        refine founds_fuel f g _ _ ?_ ?_ <;> (rw [List.length_drop]; omega)
      · rfl
end Go.Lexs

/-
  Laws of tokens, in plain Lean: no program in sight.
-/
set_option linter.unusedVariables false
set_option linter.unusedSimpArgs false
set_option linter.unnecessarySimpa false
set_option maxRecDepth 10000
namespace Go.Lexs

/-- Tokens from a place on, and the error that ends them, if any. -/
inductive Lx : Nat → List UInt8 → List Tok → Option (Nat × Nat) → Prop
  | nil {a s} : skip false s = [] → Lx a s [] none
  | bad {a s s'} : skip false s = s' → s' ≠ [] → (one s').err ≠ 0 → Lx a s [] (some ((one s').err, a + (s.length - s'.length)))
  | tok {a s s' l r} : skip false s = s' → s' ≠ [] → (one s').err = 0 → Lx (a + (s.length - s'.length) + (one s').len) (s'.drop (one s').len) l r →
      Lx a s ((found (a + (s.length - s'.length)) s').tok :: l) r

theorem Lx.exists : ∀ (n : Nat) (a : Nat) (s : List UInt8), s.length ≤ n → ∃ l r, Lx a s l r
  | n, a, s, hn => by
    cases hs : skip false s with
    | nil => exact ⟨_, _, .nil hs⟩
    | cons c s' =>
      by_cases he : (one (c :: s')).err = 0
      · have hl := skip_length false s
        rw [hs] at hl
        have hp := one_len_pos _ he
        cases n with
        | zero => simp at hl; omega
        | succ n =>
          obtain ⟨l, r, h⟩ := Lx.exists n (a + (s.length - (c :: s').length) + (one (c :: s')).len) ((c :: s').drop (one (c :: s')).len) (by rw [List.length_drop]; omega)
          exact ⟨_, _, .tok hs (by simp) he h⟩
      · exact ⟨_, _, .bad hs (by simp) he⟩

theorem Lx.founds {a : Nat} {s : List UInt8} {l : List Tok} {r : Option (Nat × Nat)} (h : Lx a s l r) : ∀ f, s.length ≤ f →
    ∃ t, founds f a s = l.map (fun t => ⟨t, 0⟩) ++ t ∧ (match r with | none => t = [] | some (e, p) => e ≠ 0 ∧ ∃ k, t = [⟨k, e⟩] ∧ k.pos = p) := by
  induction h with
  | @nil a s h =>
    intro f hf
    refine ⟨[], ?_, rfl⟩
    cases f with
    | zero => rfl
    | succ f => simp only [Lexs.founds, h]; rfl
  | @bad a s s' h hne he =>
    intro f hf
    have hl := skip_length false s
    cases s' with
    | nil => exact absurd rfl hne
    | cons c s' =>
      rw [h] at hl
      cases f with
      | zero => simp at hl; omega
      | succ f =>
        refine ⟨[found (a + (s.length - (c :: s').length)) (c :: s')], ?_, he, _, rfl, rfl⟩
        simp only [Lexs.founds, h, he, if_false]
        rfl
  | @tok a s s' l r h hne he h' ih =>
    intro f hf
    have hl := skip_length false s
    have hp := one_len_pos _ he
    cases s' with
    | nil => exact absurd rfl hne
    | cons c s' =>
      rw [h] at hl
      cases f with
      | zero => simp at hl; omega
      | succ f =>
        obtain ⟨t, h1, h2⟩ := ih f (by rw [List.length_drop]; omega)
        refine ⟨t, ?_, h2⟩
        simp only [Lexs.founds, h, he, if_true, h1, List.map_cons, List.cons_append]
        congr 1
        unfold found
        rw [he]

theorem Lx.length {a : Nat} {s : List UInt8} {l : List Tok} {r : Option (Nat × Nat)} (h : Lx a s l r) : l.length ≤ s.length := by
  induction h with
  | nil h => exact Nat.zero_le _
  | bad h hne he => exact Nat.zero_le _
  | @tok a s s' l r h hne he h' ih =>
    have hl := skip_length false s
    have hp := one_len_pos _ he
    have hle := one_len_le s' hne
    rw [h] at hl
    rw [List.length_drop] at ih
    simp only [List.length_cons]
    omega

theorem gather_map : ∀ (l : List Tok) (acc : List Tok) (t : List Found), acc.length + l.length ≤ 5000 → gather acc (l.map (fun t => ⟨t, 0⟩) ++ t) = gather (acc ++ l) t
  | [], acc, t, _ => by simp
  | x :: l, acc, t, h => by
    simp only [List.length_cons] at h
    simp only [List.map_cons, List.cons_append, gather, ne_eq, not_true_eq_false, if_false]
    rw [if_neg (by omega), gather_map l (acc ++ [x]) t (by simp; omega)]
    simp

theorem Lx.lex {s : List UInt8} {l : List Tok} {r : Option (Nat × Nat)} (h : Lx 0 s l r) (hl : s.length ≤ 5000) :
    Lexs.lex s = match r with | none => .ok l | some (e, p) => .bad e (p : Int) := by
  have hlen := h.length
  obtain ⟨t, h1, h2⟩ := h.founds s.length (Nat.le_refl _)
  unfold Lexs.lex
  rw [if_neg (by omega), h1, gather_map l [] t (by simp; omega)]
  cases r with
  | none => simp only at h2; subst h2; rfl
  | some ep =>
    obtain ⟨e, p⟩ := ep
    obtain ⟨he, k, rfl, hp⟩ := h2
    simp only [gather, he, ne_eq, not_false_eq_true, if_true, hp]

/-- Either way. -/
theorem lex_cases (s : List UInt8) (hl : s.length ≤ 5000) : (∃ l, Lx 0 s l none ∧ lex s = .ok l) ∨ ∃ l e p, Lx 0 s l (some (e, p)) ∧ lex s = .bad e (p : Int) := by
  obtain ⟨l, r, h⟩ := Lx.exists s.length 0 s (Nat.le_refl _)
  cases r with
  | none => exact .inl ⟨l, h, h.lex hl⟩
  | some ep => exact .inr ⟨l, ep.1, ep.2, h, h.lex hl⟩

theorem Lx.err_ne {a : Nat} {s : List UInt8} {l : List Tok} {e p : Nat} (h : Lx a s l (some (e, p))) : e ≠ 0 := by
  obtain ⟨t, h1, h2, -⟩ := h.founds s.length (Nat.le_refl _)
  exact h2

/-! ### Gaps -/

theorem skip_app_ne : ∀ (b : Bool) (s t : List UInt8), skip b s ≠ [] → skip b (s ++ t) = skip b s ++ t
  | b, [], t, h => by simp [skip] at h
  | true, c :: s, t, h => by
    simp only [List.cons_append, skip] at h ⊢
    split
    · rename_i hc; rw [if_pos hc] at h; exact skip_app_ne false s t h
    · rename_i hc; rw [if_neg hc] at h; exact skip_app_ne true s t h
  | false, c :: s, t, h => by
    simp only [List.cons_append, skip] at h ⊢
    split
    · rename_i hc; rw [if_pos hc] at h; exact skip_app_ne false s t h
    · rename_i hc
      rw [if_neg hc] at h
      split
      · rename_i hc2; rw [if_pos hc2] at h; exact skip_app_ne true s t h
      · rfl

theorem skip_app_nil : ∀ (b : Bool) (s t : List UInt8), skip b s = [] → skip b (s ++ 10 :: t) = skip false t
  | true, [], t, h => by simp [skip]
  | false, [], t, h => by simp [skip, show cls 10 = 1 from rfl]
  | true, c :: s, t, h => by
    simp only [List.cons_append, skip] at h ⊢
    split
    · rename_i hc; rw [if_pos hc] at h; exact skip_app_nil false s t h
    · rename_i hc; rw [if_neg hc] at h; exact skip_app_nil true s t h
  | false, c :: s, t, h => by
    simp only [List.cons_append, skip] at h ⊢
    split
    · rename_i hc; rw [if_pos hc] at h; exact skip_app_nil false s t h
    · rename_i hc
      rw [if_neg hc] at h
      split
      · rename_i hc2; rw [if_pos hc2] at h; exact skip_app_nil true s t h
      · rename_i hc2; rw [if_neg hc2] at h; cases h

/-- What is skipped. -/
theorem skip_pre : ∀ (b : Bool) (s : List UInt8), ∃ g, s = g ++ skip b s ∧ skip b g = []
  | b, [] => ⟨[], by simp [skip], by simp [skip]⟩
  | true, c :: s => by
    simp only [skip]
    split
    · rename_i hc
      obtain ⟨g, h1, h2⟩ := skip_pre false s
      exact ⟨c :: g, by rw [List.cons_append, ← h1], by simp only [skip, if_pos hc]; exact h2⟩
    · rename_i hc
      obtain ⟨g, h1, h2⟩ := skip_pre true s
      exact ⟨c :: g, by rw [List.cons_append, ← h1], by simp only [skip, if_neg hc]; exact h2⟩
  | false, c :: s => by
    simp only [skip]
    split
    · rename_i hc
      obtain ⟨g, h1, h2⟩ := skip_pre false s
      exact ⟨c :: g, by rw [List.cons_append, ← h1], by simp only [skip, if_pos hc]; exact h2⟩
    · rename_i hc
      split
      · rename_i hc2
        obtain ⟨g, h1, h2⟩ := skip_pre true s
        exact ⟨c :: g, by rw [List.cons_append, ← h1], by simp only [skip, if_neg hc, if_pos hc2]; exact h2⟩
      · exact ⟨[], rfl, rfl⟩

theorem skip_of_head {c : UInt8} {s : List UInt8} (h1 : cls c ≠ 1) (h2 : cls c ≠ 2) : skip false (c :: s) = c :: s := by
  simp only [skip, if_neg h1, if_neg h2]

theorem skip_head' {b : Bool} {s s' : List UInt8} {c : UInt8} (h : skip b s = c :: s') : cls c ≠ 1 ∧ cls c ≠ 2 := skip_head (s := s) b s h

theorem skip_skip (b : Bool) (s : List UInt8) : skip false (skip b s) = skip b s := by
  cases h : skip b s with
  | nil => rfl
  | cons c s' =>
    obtain ⟨h1, h2⟩ := skip_head' h
    exact skip_of_head h1 h2

theorem skip_take {s : List UInt8} {s' : List UInt8} (h : skip false s = s') : skip false (s.take (s.length - s'.length)) = [] := by
  obtain ⟨g, h1, h2⟩ := skip_pre false s
  have : s.take (s.length - s'.length) = g := by
    rw [← h]
    conv => lhs; rw [h1]
    have : (g ++ skip false s).length - (skip false (g ++ skip false s)).length = g.length := by
      rw [← h1]
      have := congrArg List.length h1
      simp at this
      omega
    rw [this]; simp
  rw [this]; exact h2

theorem skip_drop {s : List UInt8} {s' : List UInt8} (h : skip false s = s') : s.drop (s.length - s'.length) = s' := by
  obtain ⟨g, h1, h2⟩ := skip_pre false s
  have hl := congrArg List.length h1
  rw [List.length_append, h] at hl
  have : s.length - s'.length = g.length := by omega
  rw [this]
  conv => lhs; rw [h1]
  simp [h]

/-- What is skipped does not depend on what follows. -/
theorem skip_swap' {c : UInt8} (hc1 : cls c ≠ 1) (hc2 : cls c ≠ 2) : ∀ (g : List UInt8) (b : Bool) (t1 t2 : List UInt8), skip b (g ++ c :: t1) = c :: t1 → (g = [] → b = false) → skip b (g ++ c :: t2) = c :: t2
  | [], b, t1, t2, _, hb => by
    rw [hb rfl]
    exact skip_of_head hc1 hc2
  | d :: g, b, t1, t2, h1, _ => by
    have hlen : ∀ (b' : Bool), skip b' (g ++ c :: t1) = c :: t1 → (g = [] → b' = false) := by
      intro b' hh hg0
      subst hg0
      cases b' with
      | false => rfl
      | true =>
        exfalso
        simp only [List.nil_append, skip] at hh
        have l1 := skip_length false t1
        have l2 := skip_length true t1
        split at hh
        · rw [hh] at l1; simp at l1; omega
        · rw [hh] at l2; simp at l2; omega
    cases b with
    | true =>
      simp only [List.cons_append, skip] at h1 ⊢
      split
      · rename_i hc; rw [if_pos hc] at h1; exact skip_swap' hc1 hc2 g false t1 t2 h1 (hlen _ h1)
      · rename_i hc; rw [if_neg hc] at h1; exact skip_swap' hc1 hc2 g true t1 t2 h1 (hlen _ h1)
    | false =>
      simp only [List.cons_append, skip] at h1 ⊢
      split
      · rename_i hc; rw [if_pos hc] at h1; exact skip_swap' hc1 hc2 g false t1 t2 h1 (hlen _ h1)
      · rename_i hc
        rw [if_neg hc] at h1
        split
        · rename_i hc3; rw [if_pos hc3] at h1; exact skip_swap' hc1 hc2 g true t1 t2 h1 (hlen _ h1)
        · rename_i hc3
          rw [if_neg hc3] at h1
          exfalso
          have := congrArg List.length h1
          simp at this
          omega

theorem skip_swap {c : UInt8} (g t1 t2 : List UInt8) (hc1 : cls c ≠ 1) (hc2 : cls c ≠ 2) (h : skip false (g ++ c :: t1) = c :: t1) : skip false (g ++ c :: t2) = c :: t2 := skip_swap' hc1 hc2 g false t1 t2 h fun _ => rfl

/-! ### One token, with more or less behind it -/

theorem span_app (p : UInt8 → Bool) : ∀ (s g : List UInt8), (∀ c g', g = c :: g' → p c = false) → spanLen p (s ++ g) = spanLen p s
  | [], [], h => rfl
  | [], c :: g, h => by simp [spanLen, h c g rfl]
  | c :: s, g, h => by
    simp only [List.cons_append, spanLen]
    rw [span_app p s g h]

theorem span_take (p : UInt8 → Bool) : ∀ (s : List UInt8) (m : Nat), spanLen p s ≤ m → spanLen p (s.take m) = spanLen p s
  | [], m, h => by simp
  | c :: s, 0, h => by
    simp only [spanLen] at h
    simp only [List.take_zero, spanLen]
    split at h
    · omega
    · rename_i hc; simp [hc]
  | c :: s, m + 1, h => by
    simp only [List.take_succ_cons, spanLen] at h ⊢
    by_cases hc : p c = true
    · rw [if_pos hc] at h ⊢
      rw [if_pos hc, span_take p s m (by omega)]
    · rw [if_neg hc, if_neg hc]

def gapHead (g : List UInt8) : Prop := ∃ c g', g = c :: g' ∧ (cls c = 1 ∨ cls c = 2)

theorem gapHead_word {g : List UInt8} (h : gapHead g) : ∀ c g', g = c :: g' → isWord c = false := by
  obtain ⟨d, g2, rfl, hd⟩ := h
  intro c g' he
  simp only [List.cons.injEq] at he
  obtain ⟨rfl, rfl⟩ := he
  rcases hd with h | h <;> simp [isWord, h]

theorem isWord_digit {c : UInt8} (h : isWord c = false) : isDigit c = false := by
  cases hd : isDigit c
  · rfl
  · exfalso
    have : cls c = 3 ∨ cls c = 4 := by
      unfold cls
      split
      · exact .inl rfl
      · simp [hd]
    rcases this with h' | h' <;> simp [isWord, h'] at h

theorem gapHead_ne {g : List UInt8} (h : gapHead g) : g[0]? ≠ some 61 := by
  obtain ⟨d, g2, rfl, hd⟩ := h
  intro he
  simp at he
  subst he
  rcases hd with h | h <;> cases h

theorem one_app {s g : List UInt8} (hs : s ≠ []) (hg : gapHead g) : one (s ++ g) = one s := by
  cases s with
  | nil => exact absurd rfl hs
  | cons c s =>
    have hw := gapHead_word hg
    have h1 : spanLen isWord (c :: s ++ g) = spanLen isWord (c :: s) := span_app _ _ _ hw
    have h2 : spanLen isDigit (c :: s ++ g) = spanLen isDigit (c :: s) := span_app _ _ _ fun c g' h => isWord_digit (hw c g' h)
    have h3 : hd (c :: s ++ g) = hd (c :: s) := rfl
    have h4 : (c :: s ++ g)[1]? = some 61 ↔ (c :: s)[1]? = some 61 := by
      cases s with
      | nil =>
        have := gapHead_ne hg
        simpa using this
      | cons d s => simp
    have hle := spanLen_le isDigit (c :: s)
    have h5 : ∀ x : Nat, x = 3 ∨ x = 5 → (hd ((c :: s ++ g).drop (spanLen isDigit (c :: s))) = x ↔ hd ((c :: s).drop (spanLen isDigit (c :: s))) = x) := by
      intro x hx
      rw [List.drop_append_of_le_length hle]
      cases hd' : (c :: s).drop (spanLen isDigit (c :: s)) with
      | nil =>
        obtain ⟨d, g2, rfl, hh⟩ := hg
        simp only [List.nil_append, hd]
        omega
      | cons d s' => simp [hd]
    have h6 : (c :: s ++ g).take (spanLen isDigit (c :: s)) = (c :: s).take (spanLen isDigit (c :: s)) := List.take_append_of_le_length hle
    unfold one
    rw [h3]
    simp only [h1, h2, h4, h5 3 (.inl rfl), h5 5 (.inr rfl), h6]

theorem hd_take {s : List UInt8} {m : Nat} (h : 0 < m) : hd (s.take m) = hd s := by
  cases s with
  | nil => simp
  | cons c s => cases m with
    | zero => omega
    | succ m => rfl

theorem one_take {s : List UInt8} {m : Nat} (he : (one s).err = 0) (hm : (one s).len ≤ m) : one (s.take m) = one s := by
  have hp := one_len_pos s he
  have h3 : hd (s.take m) = hd s := hd_take (by omega)
  unfold one at hm he hp ⊢
  rw [h3]
  split at hm
  · rename_i hh
    simp only [hh] at hm he hp ⊢
    rw [span_take _ _ _ hm]
  · rename_i hh
    simp only [hh] at hm he hp ⊢
    split at he
    · cases he
    · rename_i hn
      rw [if_neg hn] at hm
      simp only at hm
      rw [span_take _ _ _ hm]
      rw [if_neg hn, if_neg, List.take_take, Nat.min_eq_left hm]
      intro hc
      apply hn
      rcases hc with hc | hc
      · exact .inl hc
      · refine .inr ?_
        rw [List.drop_take] at hc
        by_cases h0 : 0 < m - spanLen isDigit s
        · rw [hd_take h0] at hc; exact hc
        · rw [show m - spanLen isDigit s = 0 by omega] at hc
          simp [hd] at hc
  · rename_i hh
    simp only [hh]
  · rename_i hh
    simp only [hh] at hm he hp ⊢
    by_cases h1 : s[1]? = some 61
    · rw [if_pos h1] at hm ⊢
      rw [if_pos (by rw [List.getElem?_take, if_pos (by omega)]; exact h1)]
    · rw [if_neg h1, if_neg]
      rw [List.getElem?_take]
      split
      · exact h1
      · simp
  · rename_i hh
    simp only [hh] at hm he hp ⊢
    by_cases h1 : s[1]? = some 61
    · rw [if_pos h1] at hm ⊢
      rw [if_pos (by rw [List.getElem?_take, if_pos (show 1 < m from hm)]; exact h1)]
    · rw [if_neg h1] at he; cases he
  · rename_i n3 n4 n6 n7 n8
    exfalso
    revert he
    split <;> first | (simp_all; done) | simp

/-! ### Places -/

theorem Lx.congr {a1 a2 : Nat} {s1 s2 : List UInt8} {l : List Tok} {r : Option (Nat × Nat)} (h : skip false s1 = skip false s2) (ha : a1 + s1.length = a2 + s2.length) (hx : Lx a1 s1 l r) : Lx a2 s2 l r := by
  have hl1 := skip_length false s1
  have hl2 := skip_length false s2
  cases hx with
  | nil h' => exact .nil (h ▸ h')
  | @bad _ _ s' h' hne he =>
    rw [h'] at hl1; rw [← h, h'] at hl2
    have e : a1 + (s1.length - s'.length) = a2 + (s2.length - s'.length) := by omega
    rw [e]
    exact .bad (h ▸ h') hne he
  | @tok _ _ s' l r h' hne he ht =>
    rw [h'] at hl1; rw [← h, h'] at hl2
    have e : a1 + (s1.length - s'.length) = a2 + (s2.length - s'.length) := by omega
    rw [e] at ht ⊢
    exact .tok (h ▸ h') hne he ht

theorem Lx.cast {a a' : Nat} {s s' : List UInt8} {l : List Tok} {r : Option (Nat × Nat)} (h : Lx a s l r) (ha : a = a') (hs : s = s') : Lx a' s' l r := by subst ha hs; exact h

def Tok.shift (k : Nat) (t : Tok) : Tok := { t with pos := t.pos + k }

theorem Lx.shift {a : Nat} {s : List UInt8} {l : List Tok} {r : Option (Nat × Nat)} (h : Lx a s l r) (k : Nat) : Lx (a + k) s (l.map (Tok.shift k)) (r.map fun x => (x.1, x.2 + k)) := by
  induction h with
  | nil h => exact .nil h
  | @bad a s s' h hne he =>
    have := @Lx.bad (a + k) s s' h hne he
    simp only [List.map_nil, Option.map_some]
    rw [show a + (s.length - s'.length) + k = a + k + (s.length - s'.length) by omega]
    exact this
  | @tok a s s' l r h hne he h' ih =>
    have := @Lx.tok (a + k) s s' _ _ h hne he (ih.cast (by omega) rfl)
    simp only [List.map_cons]
    have e : Tok.shift k (found (a + (s.length - s'.length)) s').tok = (found (a + k + (s.length - s'.length)) s').tok := by
      simp only [found, Tok.shift]
      congr 1; omega
    rw [e]; exact this

/-- Two texts with a line feed between them. -/
theorem Lx.app {a : Nat} {s : List UInt8} {l : List Tok} {r : Option (Nat × Nat)} (h : Lx a s l r) : ∀ {t : List UInt8} {l2 : List Tok} {r2 : Option (Nat × Nat)}, Lx (a + s.length + 1) t l2 r2 →
    Lx a (s ++ 10 :: t) (match r with | none => l ++ l2 | some _ => l) (match r with | none => r2 | some x => some x) := by
  have hgap : ∀ t : List UInt8, gapHead (10 :: t) := fun t => ⟨10, t, rfl, .inl rfl⟩
  induction h with
  | @nil a s h =>
    intro t l2 r2 ht
    refine ht.congr ?_ (by simp; omega)
    rw [skip_app_nil false s t h]
  | @bad a s s' h hne he =>
    intro t l2 r2 ht
    have h1 : skip false (s ++ 10 :: t) = s' ++ 10 :: t := by rw [skip_app_ne false s _ (by rw [h]; exact hne), h]
    have h2 := one_app hne (hgap t)
    have h3 := @Lx.bad a _ _ h1 (by simp) (by rw [h2]; exact he)
    rw [h2] at h3
    have e : (s ++ 10 :: t).length - (s' ++ 10 :: t).length = s.length - s'.length := by simp; omega
    rw [e] at h3
    exact h3
  | @tok a s s' l r h hne he h' ih =>
    intro t l2 r2 ht
    have h1 : skip false (s ++ 10 :: t) = s' ++ 10 :: t := by rw [skip_app_ne false s _ (by rw [h]; exact hne), h]
    have h2 := one_app hne (hgap t)
    have hl := skip_length false s
    rw [h] at hl
    have hle := one_len_le s' hne
    have e : (s ++ 10 :: t).length - (s' ++ 10 :: t).length = s.length - s'.length := by simp; omega
    have h4 := ih (ht.cast (a' := a + (s.length - s'.length) + (one s').len + (s'.drop (one s').len).length + 1) (by rw [List.length_drop]; omega) rfl)
    have h3 := @Lx.tok a _ _ _ _ h1 (by simp) (by rw [h2]; exact he) (h4.cast (by rw [h2, e]) (by rw [h2, List.drop_append_of_le_length hle]))
    have ef : (found (a + ((s ++ 10 :: t).length - (s' ++ 10 :: t).length)) (s' ++ 10 :: t)).tok = (found (a + (s.length - s'.length)) s').tok := by
      simp only [found, h2, e, List.take_append_of_le_length hle]
    rw [ef] at h3
    cases r with
    | none => exact h3
    | some x => exact h3

/-- The text before an error; the text from it on. -/
theorem Lx.before {a : Nat} {s : List UInt8} {l : List Tok} {r : Option (Nat × Nat)} (h : Lx a s l r) : ∀ {e p : Nat}, r = some (e, p) →
    a ≤ p ∧ p < a + s.length ∧ Lx a (s.take (p - a)) l none ∧ ∀ b, Lx b (s.drop (p - a)) [] (some (e, b)) := by
  induction h with
  | nil h => intro e p hr; cases hr
  | @bad a s s' h hne he =>
    intro e p hr
    simp only [Option.some.injEq, Prod.mk.injEq] at hr
    obtain ⟨rfl, rfl⟩ := hr
    have hl := skip_length false s
    rw [h] at hl
    have hp := List.length_pos_iff.2 hne
    refine ⟨by omega, by omega, ?_, fun b => ?_⟩
    · rw [Nat.add_sub_cancel_left]
      exact .nil (skip_take h)
    · rw [Nat.add_sub_cancel_left, skip_drop h]
      have h2 : skip false s' = s' := by rw [← h]; exact skip_skip _ _
      have := @Lx.bad b s' s' h2 hne he
      rw [Nat.sub_self] at this
      exact this
  | @tok a s s' l r h hne he h' ih =>
    intro e p hr
    obtain ⟨h1, h2, h3, h4⟩ := ih hr
    have hl := skip_length false s
    rw [h] at hl
    have hle := one_len_le s' hne
    have hp := one_len_pos _ he
    rw [List.length_drop] at h2
    refine ⟨by omega, by omega, ?_, fun b => ?_⟩
    · -- the head of the text cut
      obtain ⟨g, hg1, hg2⟩ := skip_pre false s
      have hgl := congrArg List.length hg1
      rw [List.length_append, h] at hgl
      have hcut : s.take (p - a) = g ++ s'.take (p - a - g.length) := by
        conv => lhs; rw [hg1, h]
        rw [List.take_append, List.take_of_length_le (by omega)]
      have hm : (one s').len ≤ p - a - g.length := by omega
      have hone := one_take he hm
      have hne2 : s'.take (p - a - g.length) ≠ [] := by
        intro h0
        have := congrArg List.length h0
        rw [List.length_take, List.length_nil] at this
        omega
      have hskip : skip false (s.take (p - a)) = s'.take (p - a - g.length) := by
        cases s' with
        | nil => exact absurd rfl hne
        | cons c s' =>
          obtain ⟨hc1, hc2⟩ := skip_head' h
          rw [hcut]
          have hmm : ∃ m, p - a - g.length = m + 1 := ⟨p - a - g.length - 1, by omega⟩
          obtain ⟨m, hm⟩ := hmm
          rw [hm, List.take_succ_cons]
          refine skip_swap g s' _ hc1 hc2 ?_
          rw [← h, ← hg1]
      have e1 : (s.take (p - a)).length - (s'.take (p - a - g.length)).length = g.length := by
        rw [hcut, List.length_append]; omega
      have e2 : s.length - s'.length = g.length := by omega
      have h3' : Lx (a + g.length + (one s').len) ((s'.take (p - a - g.length)).drop (one s').len) l none := by
        refine h3.cast (by rw [e2]) ?_
        rw [List.drop_take]
        congr 1
        omega
      have h5 := @Lx.tok a _ _ _ _ hskip hne2 (by rw [hone]; exact he) (h3'.cast (by rw [hone, e1]) (by rw [hone]))
      have ef : (found (a + ((s.take (p - a)).length - (s'.take (p - a - g.length)).length)) (s'.take (p - a - g.length))).tok = (found (a + (s.length - s'.length)) s').tok := by
        simp only [found, hone, e1, e2, List.take_take, Nat.min_eq_left hm]
      rw [ef] at h5
      exact h5
    · refine (h4 b).cast rfl ?_
      rw [List.drop_drop]
      have : s'.drop ((one s').len + (p - (a + (s.length - s'.length) + (one s').len))) = s.drop (p - a) := by
        have hsd := skip_drop h
        have e3 : ∀ k, s'.drop k = s.drop (s.length - s'.length + k) := fun k => by rw [← List.drop_drop, hsd]
        rw [e3]
        congr 1
        omega
      exact this

/-- Where tokens stand in a text. -/
def Places (T : List UInt8) : Nat → List Tok → Prop
  | e, [] => e ≤ T.length ∧ skip false (T.drop e) = []
  | e, t :: l => e ≤ t.pos ∧ 0 < t.text.length ∧ t.pos + t.text.length ≤ T.length ∧ (T.take (t.pos + t.text.length)).drop t.pos = t.text ∧
      skip false ((T.take t.pos).drop e) = [] ∧ Places T (t.pos + t.text.length) l

theorem Lx.places {T : List UInt8} {a : Nat} {s : List UInt8} {l : List Tok} {r : Option (Nat × Nat)} (h : Lx a s l r) (hr : r = none) (ha : a ≤ T.length) (hs : s = T.drop a) : Places T a l := by
  induction h with
  | nil h => exact ⟨ha, hs ▸ h⟩
  | bad h hne he => cases hr
  | @tok a s s' l r h hne he h' ih =>
    have hl := skip_length false s
    rw [h] at hl
    have hle := one_len_le s' hne
    have hp := one_len_pos _ he
    have hsl : s.length = T.length - a := by rw [hs, List.length_drop]
    have hsd := skip_drop h
    have htl : (s'.take (one s').len).length = (one s').len := by rw [List.length_take]; omega
    have hs' : s' = T.drop (a + (s.length - s'.length)) := by
      rw [← List.drop_drop, ← hs, hsd]
    have hpos : 0 < s'.length := List.length_pos_iff.2 hne
    refine ⟨by simp only [found]; omega, by simp only [found, htl]; omega, by simp only [found, htl]; omega, ?_, ?_, ?_⟩
    · simp only [found, htl]
      rw [List.drop_take, ← hs']
      congr 1; omega
    · simp only [found]
      rw [List.drop_take, ← hs, Nat.add_sub_cancel_left]
      exact skip_take h
    · simp only [found, htl]
      refine ih hr (by omega) ?_
      rw [← List.drop_drop, ← hs']

/-- What follows a token directly. -/
theorem Lx.next_ne {a : Nat} {s : List UInt8} {t : Tok} {l : List Tok} {r : Option (Nat × Nat)} (h : Lx a s (t :: l) r) : ∃ s', skip false s = s' ∧ s' ≠ [] ∧ (one s').err = 0 ∧ t = (found (a + (s.length - s'.length)) s').tok ∧
    Lx (t.pos + t.text.length) (s'.drop (one s').len) l r := by
  cases h with
  | @tok _ _ s' _ _ h hne he h' =>
    refine ⟨s', h, hne, he, rfl, ?_⟩
    have hle := one_len_le s' hne
    have htl : (s'.take (one s').len).length = (one s').len := by rw [List.length_take]; omega
    simp only [found, htl]
    exact h'

theorem take_append_take {s : List UInt8} {n m : Nat} : s.take n ++ (s.drop n).take m = s.take (n + m) := by
  rw [List.take_add]

/-- Two tokens that follow each other directly are no single token. -/
theorem Lx.longest {a : Nat} {s : List UInt8} {t u : Tok} {l : List Tok} {r : Option (Nat × Nat)} (h : Lx a s (t :: u :: l) r) (hd : t.pos + t.text.length = u.pos) : ∀ l2, Lx 0 (t.text ++ u.text) l2 none → l2.length ≠ 1 := by
  obtain ⟨s', h1, hne, he, rfl, h2⟩ := h.next_ne
  obtain ⟨s2, h3, hne2, he2, rfl, h4⟩ := h2.next_ne
  have hle := one_len_le s' hne
  have hle2 := one_len_le s2 hne2
  have hp2 := one_len_pos s2 he2
  have hp := one_len_pos s' he
  have hl2 := skip_length false (s'.drop (one s').len)
  rw [h3] at hl2
  have hs2 : s'.drop (one s').len = s2 := by
    have := skip_drop h3
    simp only [found] at hd
    rw [show (s'.drop (one s').len).length - s2.length = 0 by omega] at this
    simpa using this
  have e : (found (a + (s.length - s'.length)) s').tok.text ++ (found ((found (a + (s.length - s'.length)) s').tok.pos + (found (a + (s.length - s'.length)) s').tok.text.length + ((s'.drop (one s').len).length - s2.length)) s2).tok.text = s'.take ((one s').len + (one s2).len) := by
    simp only [found]
    rw [← hs2, take_append_take, hs2]
  rw [e]
  intro l2 hx hlen
  have hone := one_take (m := (one s').len + (one s2).len) he (by omega)
  have hsk : skip false (s'.take ((one s').len + (one s2).len)) = s'.take ((one s').len + (one s2).len) := by
    cases s' with
    | nil => exact absurd rfl hne
    | cons c s' =>
      obtain ⟨hc1, hc2⟩ := skip_head' h1
      obtain ⟨m, hm⟩ : ∃ m, (one (c :: s')).len + (one s2).len = m + 1 := ⟨(one (c :: s')).len + (one s2).len - 1, by omega⟩
      rw [hm, List.take_succ_cons]
      exact skip_of_head hc1 hc2
  cases l2 with
  | nil => cases hlen
  | cons x l2 =>
    cases l2 with
    | cons y l2 => simp at hlen
    | nil =>
      obtain ⟨q, hq1, hq2, hq3, -, hq5⟩ := hx.next_ne
      rw [hsk] at hq1
      subst hq1
      rw [hone, List.drop_take, Nat.add_sub_cancel_left, hs2] at hq5
      have hsk2 : skip false (s2.take (one s2).len) = s2.take (one s2).len := by
        cases s2 with
        | nil => exact absurd rfl hne2
        | cons c s2 =>
          obtain ⟨hc1, hc2⟩ := skip_head' h3
          obtain ⟨m, hm⟩ : ∃ m, (one (c :: s2)).len = m + 1 := ⟨(one (c :: s2)).len - 1, by omega⟩
          rw [hm, List.take_succ_cons]
          exact skip_of_head hc1 hc2
      cases hq5 with
      | nil h =>
        rw [hsk2] at h
        have := congrArg List.length h
        rw [List.length_take, List.length_nil] at this
        omega

/-! ### Tokens that are alike -/

def Tok.like (a b : Tok) : Prop := a.kind = b.kind ∧ a.text = b.text ∧ a.num = b.num

inductive Like : List Tok → List Tok → Prop
  | nil : Like [] []
  | cons {a b l m} : a.like b → Like l m → Like (a :: l) (b :: m)

theorem Like.refl : ∀ l, Like l l
  | [] => .nil
  | _ :: l => .cons ⟨rfl, rfl, rfl⟩ (Like.refl l)

theorem Like.app {a b c d : List Tok} (h : Like a b) (h2 : Like c d) : Like (a ++ c) (b ++ d) := by
  induction h with
  | nil => exact h2
  | cons h _ ih => exact .cons h ih

theorem Like.trans {a b c : List Tok} (h : Like a b) : Like b c → Like a c := by
  induction h generalizing c with
  | nil => exact id
  | cons h _ ih =>
    intro h2
    cases h2 with
    | cons h3 h4 => exact .cons ⟨h.1.trans h3.1, h.2.1.trans h3.2.1, h.2.2.trans h3.2.2⟩ (ih h4)

theorem like_shift (k : Nat) : ∀ l : List Tok, Like l (l.map (Tok.shift k))
  | [] => .nil
  | t :: l => .cons ⟨rfl, rfl, rfl⟩ (like_shift k l)

theorem Like.length {a b : List Tok} (h : Like a b) : a.length = b.length := by
  induction h with
  | nil => rfl
  | cons _ _ ih => simp [ih]

theorem gapHead_skip {g : List UInt8} (h : gapHead g) : g ≠ [] := by obtain ⟨c, g', rfl, -⟩ := h; simp

def write (l : List Tok) : List UInt8 := l.flatMap fun t => t.text ++ [32]

theorem write_cons (t : Tok) (l : List Tok) : write (t :: l) = t.text ++ 32 :: write l := by simp [write]

/-- A token's text, with a gap behind it. -/
theorem Lx.head {s' g : List UInt8} (hne : s' ≠ []) (he : (one s').err = 0) (hsk : skip false s' = s') (hg : gapHead g) (a : Nat) {l : List Tok} {r : Option (Nat × Nat)} (h : Lx (a + (one s').len) g l r) :
    Lx a (s'.take (one s').len ++ g) ((found a s').tok :: l) r := by
  have hle := one_len_le s' hne
  have hp := one_len_pos s' he
  have hone : one (s'.take (one s').len) = one s' := one_take he (Nat.le_refl _)
  have htl : (s'.take (one s').len).length = (one s').len := by rw [List.length_take]; omega
  have htne : s'.take (one s').len ≠ [] := by
    intro h0
    rw [h0] at htl
    simp at htl; omega
  have hone2 : one (s'.take (one s').len ++ g) = one s' := by rw [one_app htne hg, hone]
  have hsk2 : skip false (s'.take (one s').len ++ g) = s'.take (one s').len ++ g := by
    cases s' with
    | nil => exact absurd rfl hne
    | cons c s' =>
      obtain ⟨hc1, hc2⟩ := skip_head' hsk
      obtain ⟨m, hm⟩ : ∃ m, (one (c :: s')).len = m + 1 := ⟨(one (c :: s')).len - 1, by omega⟩
      rw [hm, List.take_succ_cons, List.cons_append]
      exact skip_of_head hc1 hc2
  have h2 := @Lx.tok a _ _ l r hsk2 (by simp [htne]) (by rw [hone2]; exact he) (h.cast (by rw [Nat.sub_self, hone2]; rfl) (by rw [hone2, List.drop_append_of_le_length (by omega), List.drop_of_length_le (by omega), List.nil_append]))
  have e : (found (a + ((s'.take (one s').len ++ g).length - (s'.take (one s').len ++ g).length)) (s'.take (one s').len ++ g)).tok = (found a s').tok := by
    simp only [found, hone2, Nat.sub_self, Nat.add_zero]
    rw [List.take_append_of_le_length (by omega), List.take_of_length_le (by omega)]
  rw [e] at h2
  exact h2

theorem Lx.again {a : Nat} {s : List UInt8} {l : List Tok} {r : Option (Nat × Nat)} (h : Lx a s l r) : ∀ b, ∃ m, Lx b (write l) m none ∧ Like l m := by
  induction h with
  | nil h => exact fun b => ⟨[], .nil rfl, .nil⟩
  | bad h hne he => exact fun b => ⟨[], .nil rfl, .nil⟩
  | @tok a s s' l r h hne he h' ih =>
    intro b
    obtain ⟨m, h1, h2⟩ := ih (b + (one s').len + 1)
    have hsk : skip false s' = s' := by rw [← h]; exact skip_skip _ _
    have h3 : Lx (b + (one s').len) (32 :: write l) m none := by
      refine h1.congr ?_ (by simp; omega)
      simp [skip, show cls 32 = 1 from rfl]
    refine ⟨(found b s').tok :: m, ?_, .cons ⟨rfl, rfl, rfl⟩ h2⟩
    rw [write_cons]
    exact h3.head hne he hsk ⟨32, _, rfl, .inl rfl⟩ b

theorem write_length {a : Nat} {s : List UInt8} {l : List Tok} {r : Option (Nat × Nat)} (h : Lx a s l r) : (write l).length ≤ 2 * s.length := by
  induction h with
  | nil h => exact Nat.zero_le _
  | bad h hne he => exact Nat.zero_le _
  | @tok a s s' l r h hne he h' ih =>
    have hl := skip_length false s
    rw [h] at hl
    have hle := one_len_le s' hne
    have hp := one_len_pos _ he
    rw [List.length_drop] at ih
    rw [write_cons]
    simp only [List.length_append, List.length_cons, found, List.length_take]
    omega

/-! ### Gaps before, between and behind -/

/-- Up to the end of a token, and from there on. -/
theorem Lx.split {a : Nat} {s : List UInt8} {l : List Tok} {r : Option (Nat × Nat)} (h : Lx a s l r) : ∀ (i : Nat) (t : Tok), l[i]? = some t → a ≤ t.pos + t.text.length ∧ t.pos + t.text.length ≤ a + s.length ∧
    Lx (t.pos + t.text.length) (s.drop (t.pos + t.text.length - a)) (l.drop (i + 1)) r ∧
    ∀ (g : List UInt8) (b : Nat) (m : List Tok), gapHead g → Lx (b + (t.pos + t.text.length - a)) g m r → ∃ q, Lx b (s.take (t.pos + t.text.length - a) ++ g) q r ∧ Like q (l.take (i + 1) ++ m) := by
  induction h with
  | nil h => intro i t hi; simp at hi
  | bad h hne he => intro i t hi; simp at hi
  | @tok a s s' l r h hne he h' ih =>
    intro i t hi
    have hl := skip_length false s
    rw [h] at hl
    have hle := one_len_le s' hne
    have hp := one_len_pos _ he
    have hsd := skip_drop h
    have hsk : skip false s' = s' := by rw [← h]; exact skip_skip _ _
    obtain ⟨g0, hg1, hg2⟩ := skip_pre false s
    have hgl := congrArg List.length hg1
    rw [List.length_append, h] at hgl
    rw [h] at hg1
    have htl : (s'.take (one s').len).length = (one s').len := by rw [List.length_take]; omega
    have hskg : ∀ q c, s' = c :: q → ∀ z, skip false (g0 ++ c :: z) = c :: z := by
      intro q c hq z
      subst hq
      obtain ⟨hc1, hc2⟩ := skip_head' h
      exact skip_swap g0 q z hc1 hc2 (hg1 ▸ h)
    cases i with
    | zero =>
      simp only [List.getElem?_cons_zero, Option.some.injEq] at hi
      subst hi
      simp only [found, htl]
      refine ⟨by omega, by omega, ?_, ?_⟩
      · refine h'.cast rfl ?_
        rw [show a + (s.length - s'.length) + (one s').len - a = (s.length - s'.length) + (one s').len by omega, ← List.drop_drop, hsd]
      · intro g b m hg hm
        have e0 : a + (s.length - s'.length) + (one s').len - a = g0.length + (one s').len := by omega
        rw [e0] at hm ⊢
        have hx := (hm.cast (a' := b + g0.length + (one s').len) (by omega) rfl).head hne he hsk hg (b + g0.length)
        have htk : s.take (g0.length + (one s').len) = g0 ++ s'.take (one s').len := by
          conv => lhs; rw [hg1]
          rw [List.take_append, List.take_of_length_le (by omega)]
          congr 1
          congr 1; omega
        refine ⟨(found (b + g0.length) s').tok :: m, ?_, ?_⟩
        · refine hx.congr ?_ ?_
          · rw [htk, List.append_assoc]
            cases s' with
            | nil => exact absurd rfl hne
            | cons c s' =>
              obtain ⟨k, hk⟩ : ∃ m, (one (c :: s')).len = m + 1 := ⟨(one (c :: s')).len - 1, by omega⟩
              rw [hk, List.take_succ_cons, List.cons_append, hskg s' c rfl]
              obtain ⟨hc1, hc2⟩ := skip_head' h
              exact skip_of_head hc1 hc2
          · rw [htk]; simp; omega
        · exact .cons ⟨rfl, rfl, rfl⟩ (by simpa using Like.refl m)
    | succ i =>
      simp only [List.getElem?_cons_succ] at hi
      obtain ⟨h1, h2, h3, h4⟩ := ih i t hi
      rw [List.length_drop] at h2
      refine ⟨by omega, by omega, ?_, ?_⟩
      · rw [List.drop_succ_cons]
        refine h3.cast rfl ?_
        rw [List.drop_drop, ← hsd, List.drop_drop, hsd]
        congr 1; omega
      · intro g b m hg hm
        obtain ⟨q, hq1, hq2⟩ := h4 g (b + g0.length + (one s').len) m hg (hm.cast (by omega) rfl)
        have e0 : t.pos + t.text.length - a = g0.length + ((one s').len + (t.pos + t.text.length - (a + (s.length - s'.length) + (one s').len))) := by omega
        have htk : s.take (t.pos + t.text.length - a) = g0 ++ s'.take ((one s').len + (t.pos + t.text.length - (a + (s.length - s'.length) + (one s').len))) := by
          rw [e0]
          conv => lhs; arg 2; rw [hg1]
          rw [List.take_append, List.take_of_length_le (by omega)]
          congr 1
          congr 1; omega
        have hs2 : s'.take ((one s').len + (t.pos + t.text.length - (a + (s.length - s'.length) + (one s').len))) ++ g = (s'.take ((one s').len + (t.pos + t.text.length - (a + (s.length - s'.length) + (one s').len)))) ++ g := rfl
        have hone : one (s'.take ((one s').len + (t.pos + t.text.length - (a + (s.length - s'.length) + (one s').len))) ++ g) = one s' := by
          rw [one_app (by intro h0; have := congrArg List.length h0; rw [List.length_take, List.length_nil] at this; omega) hg, one_take he (by omega)]
        refine ⟨(found (b + g0.length) s').tok :: q, ?_, by rw [List.take_succ_cons, List.cons_append]; exact .cons ⟨rfl, rfl, rfl⟩ hq2⟩
        have hskip : skip false (s.take (t.pos + t.text.length - a) ++ g) = s'.take ((one s').len + (t.pos + t.text.length - (a + (s.length - s'.length) + (one s').len))) ++ g := by
          rw [htk, List.append_assoc]
          cases s' with
          | nil => exact absurd rfl hne
          | cons c s' =>
            obtain ⟨k, hk⟩ : ∃ m, (one (c :: s')).len + (t.pos + t.text.length - (a + (s.length - (c :: s').length) + (one (c :: s')).len)) = m + 1 := ⟨(one (c :: s')).len + (t.pos + t.text.length - (a + (s.length - (c :: s').length) + (one (c :: s')).len)) - 1, by omega⟩
            rw [hk, List.take_succ_cons, List.cons_append, hskg s' c rfl]
        have e1 : (s.take (t.pos + t.text.length - a) ++ g).length - (s'.take ((one s').len + (t.pos + t.text.length - (a + (s.length - s'.length) + (one s').len))) ++ g).length = g0.length := by
          rw [htk]; simp only [List.length_append]; omega
        have h5 := @Lx.tok b _ _ q r hskip (by intro h0; exact gapHead_skip hg (List.append_eq_nil_iff.1 h0).2) (by rw [hone]; exact he) (hq1.cast (by rw [hone, e1]) (by
          rw [hone, List.drop_append_of_le_length (by rw [List.length_take]; omega), List.drop_take]
          congr 2; omega))
        have ef : (found (b + ((s.take (t.pos + t.text.length - a) ++ g).length - (s'.take ((one s').len + (t.pos + t.text.length - (a + (s.length - s'.length) + (one s').len))) ++ g).length)) (s'.take ((one s').len + (t.pos + t.text.length - (a + (s.length - s'.length) + (one s').len))) ++ g)).tok = (found (b + g0.length) s').tok := by
          simp only [found, hone, e1]
          rw [List.take_append_of_le_length (by rw [List.length_take]; omega), List.take_take, Nat.min_eq_left (by omega)]
        rw [ef] at h5
        exact h5
end Go.Lexs
