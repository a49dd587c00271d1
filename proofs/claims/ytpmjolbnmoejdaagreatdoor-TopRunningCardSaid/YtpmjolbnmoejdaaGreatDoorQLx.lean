/-
  Tokens of a text, in plain Lean: no program in sight.
-/
set_option linter.unusedVariables false
namespace Go.Lexs

def isLetter (c : UInt8) : Bool := (97 ≤ c && c ≤ 122) || (65 ≤ c && c ≤ 90)
def isDigit (c : UInt8) : Bool := 48 ≤ c && c ≤ 57

def cls (c : UInt8) : Nat :=
  if isLetter c then 3 else if isDigit c then 4 else if c = 32 ∨ c = 9 ∨ c = 10 then 1 else if c = 35 then 2 else if c = 95 then 5
  else if c ∈ [59, 44, 46, 58, 40, 41, 91, 93, 123, 125, 61] then 6 else if c = 60 ∨ c = 62 then 7 else if c = 33 then 8 else 0

def isWord (c : UInt8) : Bool := cls c == 3 || cls c == 4 || cls c == 5

def hd (s : List UInt8) : Nat := match s with
  | [] => 0
  | c :: _ => cls c

def skip : Bool → List UInt8 → List UInt8
  | _, [] => []
  | true, c :: s => if c = 10 then skip false s else skip true s
  | false, c :: s => if cls c = 1 then skip false s else if cls c = 2 then skip true s else c :: s

def spanLen (p : UInt8 → Bool) : List UInt8 → Nat
  | [] => 0
  | c :: s => if p c then spanLen p s + 1 else 0

def value (s : List UInt8) : Nat := s.foldl (fun n c => 10 * n + (c.toNat - 48)) 0

structure One where
  kind : Nat
  len : Nat
  num : Nat
  err : Nat

def one (s : List UInt8) : One :=
  match hd s with
  | 3 => let k := spanLen isWord s; ⟨1, k, 0, if 24 < k then 2 else 0⟩
  | 4 => let k := spanLen isDigit s
         if 7 < k ∨ hd (s.drop k) = 3 ∨ hd (s.drop k) = 5 then ⟨2, k, 0, 4⟩ else ⟨2, k, value (s.take k), 0⟩
  | 6 => ⟨3, 1, 0, 0⟩
  | 7 => ⟨3, if s[1]? = some 61 then 2 else 1, 0, 0⟩
  | 8 => if s[1]? = some 61 then ⟨3, 2, 0, 0⟩ else ⟨3, 1, 0, 3⟩
  | _ => ⟨0, 0, 0, 3⟩

structure Tok where
  kind : Nat
  text : List UInt8
  num : Nat
  pos : Nat
  deriving DecidableEq

structure Found where
  tok : Tok
  err : Nat

def found (at_ : Nat) (s : List UInt8) : Found := ⟨⟨(one s).kind, s.take (one s).len, (one s).num, at_⟩, (one s).err⟩

def founds : Nat → Nat → List UInt8 → List Found
  | 0, _, _ => []
  | f + 1, at_, s =>
    match skip false s with
    | [] => []
    | c :: s' =>
      let p := at_ + (s.length - (c :: s').length)
      found p (c :: s') :: if (one (c :: s')).err = 0 then founds f (p + (one (c :: s')).len) ((c :: s').drop (one (c :: s')).len) else []

inductive Res where
  | ok (l : List Tok)
  | bad (e : Nat) (off : Int)

def gather : List Tok → List Found → Res
  | acc, [] => .ok acc
  | acc, f :: fs => if f.err ≠ 0 then .bad f.err f.tok.pos else if acc.length = 5000 then .bad 2 f.tok.pos else gather (acc ++ [f.tok]) fs

def lex (s : List UInt8) : Res := if 20000 < s.length then .bad 2 (-1) else gather [] (founds s.length 0 s)

/-! ### First facts -/

theorem skip_length : ∀ (b : Bool) (s : List UInt8), (skip b s).length ≤ s.length
  | _, [] => by simp [skip]
  | true, c :: s => by
    simp only [skip]; split
    · exact Nat.le_trans (skip_length false s) (by simp)
    · exact Nat.le_trans (skip_length true s) (by simp)
  | false, c :: s => by
    simp only [skip]; split
    · exact Nat.le_trans (skip_length false s) (by simp)
    · split
      · exact Nat.le_trans (skip_length true s) (by simp)
      · exact Nat.le_refl _

theorem founds_congr {f a1 a2 : Nat} {s1 s2 : List UInt8} (h : skip false s1 = skip false s2) (ha : a1 + s1.length = a2 + s2.length) (h1 : s1.length ≤ f) (h2 : s2.length ≤ f) : founds f a1 s1 = founds f a2 s2 := by
  cases f with
  | zero => rfl
  | succ f =>
    simp only [founds]
    rw [h]
    have hl1 := skip_length false s1
    have hl2 := skip_length false s2
    rw [h] at hl1
    cases hs : skip false s2 with
    | nil => rfl
    | cons c s' =>
      rw [hs] at hl1 hl2
      have : a1 + (s1.length - (c :: s').length) = a2 + (s2.length - (c :: s').length) := by omega
      simp only [this]

theorem spanLen_le (p : UInt8 → Bool) : ∀ (s : List UInt8), spanLen p s ≤ s.length
  | [] => by simp [spanLen]
  | c :: s => by
    simp only [spanLen]; split
    · have := spanLen_le p s; simp; omega
    · simp

theorem one_len_le (s : List UInt8) (h : s ≠ []) : (one s).len ≤ s.length := by
  have h1 := spanLen_le isWord s
  have h2 := spanLen_le isDigit s
  have h3 : 0 < s.length := List.length_pos_iff.2 h
  have h4 : s[1]? = some 61 → 2 ≤ s.length := fun hh => by
    have := (List.getElem?_eq_some_iff.1 hh).1; omega
  unfold one
  split
  · exact h1
  · simp only; split <;> exact h2
  · exact h3
  · simp only; split
    · rename_i hh; exact h4 hh
    · exact h3
  · split
    · rename_i hh; exact h4 hh
    · exact h3
  · exact Nat.zero_le _

theorem one_len_pos (s : List UInt8) (h : (one s).err = 0) : 0 < (one s).len := by
  cases s with
  | nil => simp [one, hd] at h
  | cons c s =>
    unfold one at h ⊢
    split
    · rename_i hh
      simp only [hd] at hh
      have : isWord c = true := by simp [isWord, hh]
      simp [spanLen, this]
    · rename_i hh
      simp only [hd] at hh
      have : isDigit c = true := by
        unfold cls at hh
        split at hh
        · cases hh
        · split at hh
          · assumption
          · repeat (split at hh; · cases hh)
            cases hh
      have hp : 0 < spanLen isDigit (c :: s) := by simp [spanLen, this]
      simp only; split <;> exact hp
    · decide
    · simp only; split <;> decide
    · split <;> simp
    · rename_i h3 h4 h5 h6 h7
      split at h <;> simp_all

theorem founds_fuel : ∀ (f g a : Nat) (s : List UInt8), s.length ≤ f → s.length ≤ g → founds f a s = founds g a s
  | 0, g, a, s, h, _ => by
    have : s = [] := List.eq_nil_of_length_eq_zero (by omega)
    subst this
    cases g <;> simp [founds, skip]
  | f + 1, 0, a, s, _, h => by
    have : s = [] := List.eq_nil_of_length_eq_zero (by omega)
    subst this
    simp [founds, skip]
  | f + 1, g + 1, a, s, h1, h2 => by
    simp only [founds]
    have hl := skip_length false s
    cases hs : skip false s with
    | nil => rfl
    | cons c s' =>
      rw [hs] at hl
      simp only
      congr 1
      split
      · rename_i he
        have hp := one_len_pos (c :: s') he
        refine founds_fuel f g _ _ ?_ ?_ <;> (rw [List.length_drop]; omega)
      · rfl
end Go.Lexs

/-
  Laws of tokens, in plain Lean: no program in sight.
-/
set_option linter.unusedVariables false
set_option linter.unusedSimpArgs false
set_option linter.unnecessarySimpa false
set_option maxRecDepth 10000
namespace Go.Lexs

inductive Lx : Nat → List UInt8 → List Tok → Option (Nat × Nat) → Prop
  | nil {a s} : skip false s = [] → Lx a s [] none
  | bad {a s s'} : skip false s = s' → s' ≠ [] → (one s').err ≠ 0 → Lx a s [] (some ((one s').err, a + (s.length - s'.length)))
  | tok {a s s' l r} : skip false s = s' → s' ≠ [] → (one s').err = 0 → Lx (a + (s.length - s'.length) + (one s').len) (s'.drop (one s').len) l r →
      Lx a s ((found (a + (s.length - s'.length)) s').tok :: l) r

theorem Lx.exists : ∀ (n : Nat) (a : Nat) (s : List UInt8), s.length ≤ n → ∃ l r, Lx a s l r
  | n, a, s, hn => by
    cases hs : skip false s with
    | nil => exact ⟨_, _, .nil hs⟩
    | cons c s' =>
      by_cases he : (one (c :: s')).err = 0
      · have hl := skip_length false s
        rw [hs] at hl
        have hp := one_len_pos _ he
        cases n with
        | zero => simp at hl; omega
        | succ n =>
          obtain ⟨l, r, h⟩ := Lx.exists n (a + (s.length - (c :: s').length) + (one (c :: s')).len) ((c :: s').drop (one (c :: s')).len) (by rw [List.length_drop]; omega)
          exact ⟨_, _, .tok hs (by simp) he h⟩
      · exact ⟨_, _, .bad hs (by simp) he⟩

theorem Lx.founds {a : Nat} {s : List UInt8} {l : List Tok} {r : Option (Nat × Nat)} (h : Lx a s l r) : ∀ f, s.length ≤ f →
    ∃ t, founds f a s = l.map (fun t => ⟨t, 0⟩) ++ t ∧ (match r with | none => t = [] | some (e, p) => e ≠ 0 ∧ ∃ k, t = [⟨k, e⟩] ∧ k.pos = p) := by
  induction h with
  | @nil a s h =>
    intro f hf
    refine ⟨[], ?_, rfl⟩
    cases f with
    | zero => rfl
    | succ f => simp only [Lexs.founds, h]; rfl
  | @bad a s s' h hne he =>
    intro f hf
    have hl := skip_length false s
    cases s' with
    | nil => exact absurd rfl hne
    | cons c s' =>
      rw [h] at hl
      cases f with
      | zero => simp at hl; omega
      | succ f =>
        refine ⟨[found (a + (s.length - (c :: s').length)) (c :: s')], ?_, he, _, rfl, rfl⟩
        simp only [Lexs.founds, h, he, if_false]
        rfl
  | @tok a s s' l r h hne he h' ih =>
    intro f hf
    have hl := skip_length false s
    have hp := one_len_pos _ he
    cases s' with
    | nil => exact absurd rfl hne
    | cons c s' =>
      rw [h] at hl
      cases f with
      | zero => simp at hl; omega
      | succ f =>
        obtain ⟨t, h1, h2⟩ := ih f (by rw [List.length_drop]; omega)
        refine ⟨t, ?_, h2⟩
        simp only [Lexs.founds, h, he, if_true, h1, List.map_cons, List.cons_append]
        congr 1
        unfold found
        rw [he]

theorem Lx.length {a : Nat} {s : List UInt8} {l : List Tok} {r : Option (Nat × Nat)} (h : Lx a s l r) : l.length ≤ s.length := by
  induction h with
  | nil h => exact Nat.zero_le _
  | bad h hne he => exact Nat.zero_le _
  | @tok a s s' l r h hne he h' ih =>
    have hl := skip_length false s
    have hp := one_len_pos _ he
    have hle := one_len_le s' hne
    rw [h] at hl
    rw [List.length_drop] at ih
    simp only [List.length_cons]
    omega

theorem gather_map : ∀ (l : List Tok) (acc : List Tok) (t : List Found), acc.length + l.length ≤ 5000 → gather acc (l.map (fun t => ⟨t, 0⟩) ++ t) = gather (acc ++ l) t
  | [], acc, t, _ => by simp
  | x :: l, acc, t, h => by
    simp only [List.length_cons] at h
    simp only [List.map_cons, List.cons_append, gather, ne_eq, not_true_eq_false, if_false]
    rw [if_neg (by omega), gather_map l (acc ++ [x]) t (by simp; omega)]
    simp

theorem Lx.lex {s : List UInt8} {l : List Tok} {r : Option (Nat × Nat)} (h : Lx 0 s l r) (hl : s.length ≤ 5000) :
    Lexs.lex s = match r with | none => .ok l | some (e, p) => .bad e (p : Int) := by
  have hlen := h.length
  obtain ⟨t, h1, h2⟩ := h.founds s.length (Nat.le_refl _)
  unfold Lexs.lex
  rw [if_neg (by omega), h1, gather_map l [] t (by simp; omega)]
  cases r with
  | none => simp only at h2; subst h2; rfl
  | some ep =>
    obtain ⟨e, p⟩ := ep
    obtain ⟨he, k, rfl, hp⟩ := h2
    simp only [gather, he, ne_eq, not_false_eq_true, if_true, hp]

/-! ### Gaps -/

theorem skip_pre : ∀ (b : Bool) (s : List UInt8), ∃ g, s = g ++ skip b s ∧ skip b g = []
  | b, [] => ⟨[], by simp [skip], by simp [skip]⟩
  | true, c :: s => by
    simp only [skip]
    split
    · rename_i hc
      obtain ⟨g, h1, h2⟩ := skip_pre false s
      exact ⟨c :: g, by rw [List.cons_append, ← h1], by simp only [skip, if_pos hc]; exact h2⟩
    · rename_i hc
      obtain ⟨g, h1, h2⟩ := skip_pre true s
      exact ⟨c :: g, by rw [List.cons_append, ← h1], by simp only [skip, if_neg hc]; exact h2⟩
  | false, c :: s => by
    simp only [skip]
    split
    · rename_i hc
      obtain ⟨g, h1, h2⟩ := skip_pre false s
      exact ⟨c :: g, by rw [List.cons_append, ← h1], by simp only [skip, if_pos hc]; exact h2⟩
    · rename_i hc
      split
      · rename_i hc2
        obtain ⟨g, h1, h2⟩ := skip_pre true s
        exact ⟨c :: g, by rw [List.cons_append, ← h1], by simp only [skip, if_neg hc, if_pos hc2]; exact h2⟩
      · exact ⟨[], rfl, rfl⟩

theorem skip_of_head {c : UInt8} {s : List UInt8} (h1 : cls c ≠ 1) (h2 : cls c ≠ 2) : skip false (c :: s) = c :: s := by
  simp only [skip, if_neg h1, if_neg h2]

theorem skip_drop {s : List UInt8} {s' : List UInt8} (h : skip false s = s') : s.drop (s.length - s'.length) = s' := by
  obtain ⟨g, h1, h2⟩ := skip_pre false s
  have hl := congrArg List.length h1
  rw [List.length_append, h] at hl
  have : s.length - s'.length = g.length := by omega
  rw [this]
  conv => lhs; rw [h1]
  simp [h]

/-! ### One token, with more or less behind it -/

/-! ### Places -/

theorem Lx.next_ne {a : Nat} {s : List UInt8} {t : Tok} {l : List Tok} {r : Option (Nat × Nat)} (h : Lx a s (t :: l) r) : ∃ s', skip false s = s' ∧ s' ≠ [] ∧ (one s').err = 0 ∧ t = (found (a + (s.length - s'.length)) s').tok ∧
    Lx (t.pos + t.text.length) (s'.drop (one s').len) l r := by
  cases h with
  | @tok _ _ s' _ _ h hne he h' =>
    refine ⟨s', h, hne, he, rfl, ?_⟩
    have hle := one_len_le s' hne
    have htl : (s'.take (one s').len).length = (one s').len := by rw [List.length_take]; omega
    simp only [found, htl]
    exact h'

/-! ### Tokens that are alike -/

def write (l : List Tok) : List UInt8 := l.flatMap fun t => t.text ++ [32]

/-! ### Gaps before, between and behind -/

end Go.Lexs

set_option linter.unusedVariables false
set_option linter.unusedSimpArgs false
set_option linter.unnecessarySimpa false
set_option maxRecDepth 10000
namespace Go.Fin
open Go.Lexs

def Nm (s : List UInt8) : Bool := s.all isWord && decide (0 < s.length ∧ s.length ≤ 24 ∧ hd s = 3)

theorem spanLen_all' {p : UInt8 → Bool} : ∀ (s : List UInt8), s.all p = true → spanLen p s = s.length
  | [], _ => rfl
  | c :: s, h => by
    simp only [List.all_cons, Bool.and_eq_true] at h
    simp only [spanLen, h.1, if_true, spanLen_all' s h.2, List.length_cons]

theorem spanLen_all_of {p : UInt8 → Bool} : ∀ (s : List UInt8), spanLen p s = s.length → s.all p = true
  | [], _ => rfl
  | c :: s, h => by
    simp only [spanLen] at h
    split at h
    · rename_i hc
      simp only [List.length_cons] at h
      rw [List.all_cons, hc, spanLen_all_of s (by omega)]
      rfl
    · simp at h

theorem lex_name (s : List UInt8) : (∃ t, lex s = .ok [t] ∧ t.kind = 1 ∧ t.text = s) ↔ Nm s = true := by
  constructor
  · rintro ⟨t, h, hk, ht⟩
    have hlen : ¬ 20000 < s.length := fun hl => by unfold lex at h; rw [if_pos hl] at h; cases h
    obtain ⟨l, r, hx⟩ := Lx.exists s.length 0 s (Nat.le_refl _)
    -- the first token is the whole text
    obtain ⟨fs, hf1, hf2⟩ := hx.founds s.length (Nat.le_refl _)
    unfold lex at h
    rw [if_neg hlen, hf1] at h
    have hshape : ∃ s', skip false s = s' ∧ s' ≠ [] ∧ (one s').err = 0 ∧ t = (found (0 + (s.length - s'.length)) s').tok := by
      cases l with
      | nil =>
        simp only [List.map_nil, List.nil_append] at h
        cases r with
        | none => simp only at hf2; subst hf2; simp [gather] at h
        | some ep =>
          obtain ⟨e, p⟩ := ep
          obtain ⟨he, k, rfl, -⟩ := hf2
          simp [gather, he] at h
      | cons u l =>
        obtain ⟨s', h1, h2, h3, h4, -⟩ := hx.next_ne
        refine ⟨s', h1, h2, h3, ?_⟩
        rw [← h4]
        simp only [List.map_cons, List.cons_append, gather, ne_eq, not_true_eq_false, if_false, List.length_nil, List.nil_append] at h
        rw [if_neg (by omega)] at h
        have key : ∀ (fs : List Found) (acc : List Tok), (∃ a b, acc = a :: b) → gather acc fs = .ok [t] → ∃ b, acc = t :: b := by
          intro fs
          induction fs with
          | nil =>
            rintro acc ⟨a, b, rfl⟩ h
            simp only [gather, Res.ok.injEq] at h
            exact ⟨b, by rw [h]; simp at h; rw [h.2]⟩
          | cons f fs ih =>
            rintro acc ⟨a, b, rfl⟩ h
            simp only [gather] at h
            split at h
            · cases h
            · split at h
              · cases h
              · obtain ⟨b', hb⟩ := ih _ ⟨a, b ++ [f.tok], rfl⟩ h
                simp at hb
                exact ⟨b, by rw [hb.1]⟩
        obtain ⟨b', hb⟩ := key _ _ ⟨u, [], rfl⟩ h
        simp at hb
        exact hb.1.symm
    obtain ⟨s', h1, h2, h3, rfl⟩ := hshape
    simp only [found] at hk ht
    have hl := skip_length false s
    rw [h1] at hl
    have hle := one_len_le s' h2
    have htl : (s'.take (one s').len).length = s.length := by rw [ht]
    rw [List.length_take] at htl
    have hs' : s' = s := by
      have := skip_drop h1
      rw [show s.length - s'.length = 0 by omega] at this
      simpa using this.symm
    subst hs'
    have hfull : (one s').len = s'.length := by omega
    have hpos := List.length_pos_iff.2 h2
    unfold one at hk h3 hfull
    unfold Nm
    split at hk
    · rename_i hh
      rw [hh] at h3 hfull
      simp only at h3 hfull
      rw [spanLen_all_of s' hfull]
      rw [hfull] at h3
      simp only [Bool.true_and, decide_eq_true_eq]
      refine ⟨hpos, ?_, hh⟩
      split at h3
      · cases h3
      · omega
    · simp only at hk; split at hk <;> cases hk
    · cases hk
    · cases hk
    · split at hk <;> cases hk
    · cases hk
  · intro h
    unfold Nm at h
    simp only [Bool.and_eq_true, decide_eq_true_eq] at h
    obtain ⟨h1, h2, h3, h4⟩ := h
    have o1 : one s = ⟨1, s.length, 0, 0⟩ := by
      unfold one
      rw [h4]
      simp only [spanLen_all' s h1]
      rw [if_neg (by omega)]
    have k1 : skip false s = s := by
      cases s with
      | nil => rfl
      | cons a t => simp only [hd] at h4; exact skip_of_head (by omega) (by omega)
    have hx : Lx 0 s [(found (0 + (s.length - s.length)) s).tok] none :=
      .tok k1 (by intro h; rw [h] at h2; simp at h2) (by rw [o1]) (.nil (by rw [o1, List.drop_of_length_le (Nat.le_refl _)]; rfl))
    refine ⟨_, hx.lex (by omega), by simp only [found, o1], by simp only [found, o1, List.take_of_length_le (Nat.le_refl _)]⟩

theorem gather_err : ∀ (fs : List Found) (acc : List Tok) (e : Nat) (off : Int), gather acc fs = .bad e off → e ≠ 0
  | [], acc, e, off, h => by cases h
  | f :: fs, acc, e, off, h => by
    simp only [gather] at h
    split at h
    · rename_i hf
      cases h
      exact hf
    · split at h
      · cases h; omega
      · exact gather_err fs _ e off h

theorem lex_err {s : List UInt8} {e : Nat} {off : Int} (h : lex s = .bad e off) : e ≠ 0 := by
  unfold lex at h
  split at h
  · cases h; omega
  · exact gather_err _ _ _ _ h

end Go.Fin
