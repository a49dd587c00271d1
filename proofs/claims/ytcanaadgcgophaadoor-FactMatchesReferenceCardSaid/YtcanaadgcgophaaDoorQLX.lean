/-
  Tokens of a text, in plain Lean: no program in sight.
-/
set_option linter.unusedVariables false
namespace Go.Lexs

def isLetter (c : UInt8) : Bool := (97 ≤ c && c ≤ 122) || (65 ≤ c && c ≤ 90)
def isDigit (c : UInt8) : Bool := 48 ≤ c && c ≤ 57

def cls (c : UInt8) : Nat :=
  if isLetter c then 3 else if isDigit c then 4 else if c = 32 ∨ c = 9 ∨ c = 10 then 1 else if c = 35 then 2 else if c = 95 then 5
  else if c ∈ [59, 44, 46, 58, 40, 41, 91, 93, 123, 125, 61] then 6 else if c = 60 ∨ c = 62 then 7 else if c = 33 then 8 else 0

def isWord (c : UInt8) : Bool := cls c == 3 || cls c == 4 || cls c == 5

def hd (s : List UInt8) : Nat := match s with
  | [] => 0
  | c :: _ => cls c

def skip : Bool → List UInt8 → List UInt8
  | _, [] => []
  | true, c :: s => if c = 10 then skip false s else skip true s
  | false, c :: s => if cls c = 1 then skip false s else if cls c = 2 then skip true s else c :: s

def spanLen (p : UInt8 → Bool) : List UInt8 → Nat
  | [] => 0
  | c :: s => if p c then spanLen p s + 1 else 0

def value (s : List UInt8) : Nat := s.foldl (fun n c => 10 * n + (c.toNat - 48)) 0

structure One where
  kind : Nat
  len : Nat
  num : Nat
  err : Nat

def one (s : List UInt8) : One :=
  match hd s with
  | 3 => let k := spanLen isWord s; ⟨1, k, 0, if 24 < k then 2 else 0⟩
  | 4 => let k := spanLen isDigit s
         if 7 < k ∨ hd (s.drop k) = 3 ∨ hd (s.drop k) = 5 then ⟨2, k, 0, 4⟩ else ⟨2, k, value (s.take k), 0⟩
  | 6 => ⟨3, 1, 0, 0⟩
  | 7 => ⟨3, if s[1]? = some 61 then 2 else 1, 0, 0⟩
  | 8 => if s[1]? = some 61 then ⟨3, 2, 0, 0⟩ else ⟨3, 1, 0, 3⟩
  | _ => ⟨0, 0, 0, 3⟩

structure Tok where
  kind : Nat
  text : List UInt8
  num : Nat
  pos : Nat
  deriving DecidableEq

structure Found where
  tok : Tok
  err : Nat

def found (at_ : Nat) (s : List UInt8) : Found := ⟨⟨(one s).kind, s.take (one s).len, (one s).num, at_⟩, (one s).err⟩

def founds : Nat → Nat → List UInt8 → List Found
  | 0, _, _ => []
  | f + 1, at_, s =>
    match skip false s with
    | [] => []
    | c :: s' =>
      let p := at_ + (s.length - (c :: s').length)
      found p (c :: s') :: if (one (c :: s')).err = 0 then founds f (p + (one (c :: s')).len) ((c :: s').drop (one (c :: s')).len) else []

inductive Res where
  | ok (l : List Tok)
  | bad (e : Nat) (off : Int)

def gather : List Tok → List Found → Res
  | acc, [] => .ok acc
  | acc, f :: fs => if f.err ≠ 0 then .bad f.err f.tok.pos else if acc.length = 5000 then .bad 2 f.tok.pos else gather (acc ++ [f.tok]) fs

def lex (s : List UInt8) : Res := if 20000 < s.length then .bad 2 (-1) else gather [] (founds s.length 0 s)

/-! ### First facts -/

theorem skip_length : ∀ (b : Bool) (s : List UInt8), (skip b s).length ≤ s.length
  | _, [] => by simp [skip]
  | true, c :: s => by
    simp only [skip]; split
    · exact Nat.le_trans (skip_length false s) (by simp)
    · exact Nat.le_trans (skip_length true s) (by simp)
  | false, c :: s => by
    simp only [skip]; split
    · exact Nat.le_trans (skip_length false s) (by simp)
    · split
      · exact Nat.le_trans (skip_length true s) (by simp)
      · exact Nat.le_refl _

theorem skip_head {s s' : List UInt8} {c : UInt8} : ∀ (b : Bool) (s : List UInt8), skip b s = c :: s' → cls c ≠ 1 ∧ cls c ≠ 2
  | _, [], h => by simp [skip] at h
  | true, d :: s, h => by
    simp only [skip] at h; split at h
    · exact skip_head (s := s) false s h
    · exact skip_head (s := s) true s h
  | false, d :: s, h => by
    simp only [skip] at h; split at h
    · exact skip_head (s := s) false s h
    · rename_i h1
      split at h
      · exact skip_head (s := s) true s h
      · rename_i h2
        simp only [List.cons.injEq] at h
        obtain ⟨rfl, rfl⟩ := h
        exact ⟨h1, h2⟩

theorem founds_congr {f a1 a2 : Nat} {s1 s2 : List UInt8} (h : skip false s1 = skip false s2) (ha : a1 + s1.length = a2 + s2.length) (h1 : s1.length ≤ f) (h2 : s2.length ≤ f) : founds f a1 s1 = founds f a2 s2 := by
  cases f with
  | zero => rfl
  | succ f =>
    simp only [founds]
    rw [h]
    have hl1 := skip_length false s1
    have hl2 := skip_length false s2
    rw [h] at hl1
    cases hs : skip false s2 with
    | nil => rfl
    | cons c s' =>
      rw [hs] at hl1 hl2
      have : a1 + (s1.length - (c :: s').length) = a2 + (s2.length - (c :: s').length) := by omega
      simp only [this]

theorem spanLen_le (p : UInt8 → Bool) : ∀ (s : List UInt8), spanLen p s ≤ s.length
  | [] => by simp [spanLen]
  | c :: s => by
    simp only [spanLen]; split
    · have := spanLen_le p s; simp; omega
    · simp

theorem one_len_le (s : List UInt8) (h : s ≠ []) : (one s).len ≤ s.length := by
  have h1 := spanLen_le isWord s
  have h2 := spanLen_le isDigit s
  have h3 : 0 < s.length := List.length_pos_iff.2 h
  have h4 : s[1]? = some 61 → 2 ≤ s.length := fun hh => by
    have := (List.getElem?_eq_some_iff.1 hh).1; omega
  unfold one
  split
  · exact h1
  · simp only; split <;> exact h2
  · exact h3
  · simp only; split
    · rename_i hh; exact h4 hh
    · exact h3
  · split
    · rename_i hh; exact h4 hh
    · exact h3
  · exact Nat.zero_le _

theorem one_len_pos (s : List UInt8) (h : (one s).err = 0) : 0 < (one s).len := by
  cases s with
  | nil => simp [one, hd] at h
  | cons c s =>
    unfold one at h ⊢
    split
    · rename_i hh
      simp only [hd] at hh
      have : isWord c = true := by simp [isWord, hh]
      simp [spanLen, this]
    · rename_i hh
      simp only [hd] at hh
      have : isDigit c = true := by
        unfold cls at hh
        split at hh
        · cases hh
        · split at hh
          · assumption
          · repeat (split at hh; · cases hh)
            cases hh
      have hp : 0 < spanLen isDigit (c :: s) := by simp [spanLen, this]
      simp only; split <;> exact hp
    · decide
    · simp only; split <;> decide
    · split <;> simp
    · rename_i h3 h4 h5 h6 h7
      split at h <;> simp_all

theorem founds_fuel : ∀ (f g a : Nat) (s : List UInt8), s.length ≤ f → s.length ≤ g → founds f a s = founds g a s
  | 0, g, a, s, h, _ => by
    have : s = [] := List.eq_nil_of_length_eq_zero (by omega)
    subst this
    cases g <;> simp [founds, skip]
  | f + 1, 0, a, s, _, h => by
    have : s = [] := List.eq_nil_of_length_eq_zero (by omega)
    subst this
    simp [founds, skip]
  | f + 1, g + 1, a, s, h1, h2 => by
    simp only [founds]
    have hl := skip_length false s
    cases hs : skip false s with
    | nil => rfl
    | cons c s' =>
      rw [hs] at hl
      simp only
      congr 1
      split
      · rename_i he
        have hp := one_len_pos (c :: s') he
        refine founds_fuel f g _ _ ?_ ?_ <;> (rw [List.length_drop]; omega)
      · rfl
end Go.Lexs

/-
  Laws of tokens, in plain Lean: no program in sight.
-/
set_option linter.unusedVariables false
set_option linter.unusedSimpArgs false
set_option linter.unnecessarySimpa false
set_option maxRecDepth 10000
namespace Go.Lexs

inductive Lx : Nat → List UInt8 → List Tok → Option (Nat × Nat) → Prop
  | nil {a s} : skip false s = [] → Lx a s [] none
  | bad {a s s'} : skip false s = s' → s' ≠ [] → (one s').err ≠ 0 → Lx a s [] (some ((one s').err, a + (s.length - s'.length)))
  | tok {a s s' l r} : skip false s = s' → s' ≠ [] → (one s').err = 0 → Lx (a + (s.length - s'.length) + (one s').len) (s'.drop (one s').len) l r →
      Lx a s ((found (a + (s.length - s'.length)) s').tok :: l) r

/-! ### Gaps -/

theorem skip_pre : ∀ (b : Bool) (s : List UInt8), ∃ g, s = g ++ skip b s ∧ skip b g = []
  | b, [] => ⟨[], by simp [skip], by simp [skip]⟩
  | true, c :: s => by
    simp only [skip]
    split
    · rename_i hc
      obtain ⟨g, h1, h2⟩ := skip_pre false s
      exact ⟨c :: g, by rw [List.cons_append, ← h1], by simp only [skip, if_pos hc]; exact h2⟩
    · rename_i hc
      obtain ⟨g, h1, h2⟩ := skip_pre true s
      exact ⟨c :: g, by rw [List.cons_append, ← h1], by simp only [skip, if_neg hc]; exact h2⟩
  | false, c :: s => by
    simp only [skip]
    split
    · rename_i hc
      obtain ⟨g, h1, h2⟩ := skip_pre false s
      exact ⟨c :: g, by rw [List.cons_append, ← h1], by simp only [skip, if_pos hc]; exact h2⟩
    · rename_i hc
      split
      · rename_i hc2
        obtain ⟨g, h1, h2⟩ := skip_pre true s
        exact ⟨c :: g, by rw [List.cons_append, ← h1], by simp only [skip, if_neg hc, if_pos hc2]; exact h2⟩
      · exact ⟨[], rfl, rfl⟩

theorem skip_of_head {c : UInt8} {s : List UInt8} (h1 : cls c ≠ 1) (h2 : cls c ≠ 2) : skip false (c :: s) = c :: s := by
  simp only [skip, if_neg h1, if_neg h2]

theorem skip_head' {b : Bool} {s s' : List UInt8} {c : UInt8} (h : skip b s = c :: s') : cls c ≠ 1 ∧ cls c ≠ 2 := skip_head (s := s) b s h

theorem skip_skip (b : Bool) (s : List UInt8) : skip false (skip b s) = skip b s := by
  cases h : skip b s with
  | nil => rfl
  | cons c s' =>
    obtain ⟨h1, h2⟩ := skip_head' h
    exact skip_of_head h1 h2

theorem skip_drop {s : List UInt8} {s' : List UInt8} (h : skip false s = s') : s.drop (s.length - s'.length) = s' := by
  obtain ⟨g, h1, h2⟩ := skip_pre false s
  have hl := congrArg List.length h1
  rw [List.length_append, h] at hl
  have : s.length - s'.length = g.length := by omega
  rw [this]
  conv => lhs; rw [h1]
  simp [h]

/-! ### One token, with more or less behind it -/

/-! ### Places -/

/-! ### Tokens that are alike -/

def Tok.like (a b : Tok) : Prop := a.kind = b.kind ∧ a.text = b.text ∧ a.num = b.num

inductive Like : List Tok → List Tok → Prop
  | nil : Like [] []
  | cons {a b l m} : a.like b → Like l m → Like (a :: l) (b :: m)

def write (l : List Tok) : List UInt8 := l.flatMap fun t => t.text ++ [32]

/-! ### Gaps before, between and behind -/

end Go.Lexs
