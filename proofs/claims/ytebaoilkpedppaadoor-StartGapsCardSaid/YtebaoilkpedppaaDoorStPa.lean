/-
  Conditions of commencement: what Parse reads, in plain Lean.
-/
import Derived.Test.YtebaoilkpedppaaDoorLX
import Derived.Test.YtebaoilkpedppaaDoorStSpec
set_option linter.unusedVariables false
set_option linter.unusedSimpArgs false
set_option linter.unnecessarySimpa false
set_option maxRecDepth 10000
namespace Go.Sta
open Go.Lexs (Tok lex)
/-- An answer of the reader: a thing and what is left; or an error and its place. -/
inductive Rd (α : Type) where
  | ok (x : α) (r : List Tok)
  | bad (e at_ : Int)
/-- The next token is this word or symbol. -/
def isT (w : Tx) : List Tok → Bool
  | [] => false
  | t :: _ => decide (t.kind ≠ 2) && decide (t.text = w)
def failE : List Tok → Int
  | [] => 6
  | _ :: _ => 5
def failA (en : Int) : List Tok → Int
  | [] => en
  | t :: _ => t.pos
def failR {α : Type} (en : Int) (ts : List Tok) : Rd α := .bad (failE ts) (failA en ts)
def kAnd : Tx := [97, 110, 100]
def kOr : Tx := [111, 114]
def kOpen : Tx := [40]
def kShut : Tx := [41]
/-- The words of operations. -/
def wordL : List (Tx × Int) := [([97, 108, 119, 97, 121, 115], 1), ([110, 101, 118, 101, 114], 2), ([100, 97, 121], 3), ([111, 114, 100, 101, 114], 4), ([101, 118, 101, 110, 116], 5), ([98, 101, 103, 117, 110], 6), ([111, 118, 101, 114], 7)]
/-- A token of a kind. -/
def takeT (en : Int) (kind : Nat) : List Tok → Rd Tok
  | [] => failR en []
  | t :: r => if t.kind = kind then .ok t r else failR en (t :: r)
/-- Further ones behind the word. -/
def sevTail (w : Tx) (read : List Tok → Rd Sn) : Nat → List Sn → List Tok → Rd (List Sn)
  | 0, acc, ts => .ok acc ts
  | n + 1, acc, ts => if isT w ts then (match read ts.tail with | .ok x r => sevTail w read n (acc ++ [x]) r | .bad e a => .bad e a) else .ok acc ts
def joinS (op : Int) : List Sn → Sn
  | [x] => x
  | l => .node op [] 0 l
def sev (w : Tx) (op : Int) (read : List Tok → Rd Sn) (ts : List Tok) : Rd Sn :=
  match read ts with
  | .bad e a => .bad e a
  | .ok x r => match sevTail w read r.length [x] r with
    | .bad e a => .bad e a
    | .ok l r' => .ok (joinS op l) r'
/-- One with a word at its head. -/
def wordR (en : Int) (op : Int) (ts : List Tok) : Rd Sn :=
  if op = 3 then (match takeT en 2 ts with | .bad e a => .bad e a | .ok t r => if 1000000 < t.num then .bad 10 t.pos else .ok (.node 3 [] t.num []) r)
  else if named op then (match takeT en 1 ts with | .bad e a => .bad e a | .ok t r => .ok (.node op t.text 0 []) r)
  else .ok (.node op [] 0 []) ts
def pOne (en : Int) : Nat → List Tok → Rd Sn
  | 0, ts => failR en ts
  | f + 1, ts => if isT kOpen ts then
      (match sev kOr 9 (sev kAnd 8 (pOne en f)) ts.tail with
      | .bad e a => .bad e a
      | .ok s r => if isT kShut r then .ok s r.tail else failR en r)
    else match wordL.find? fun p => isT p.1 ts with
      | none => failR en ts
      | some p => wordR en p.2 ts.tail
def pAll (en : Int) (f : Nat) : List Tok → Rd Sn := sev kAnd 8 (pOne en f)
def pStart (en : Int) (f : Nat) : List Tok → Rd Sn := sev kOr 9 (pAll en f)
/-- What Parse answers about tokens: a condition; or an error and its place. -/
def parseT (en : Int) (ts : List Tok) : Sn ⊕ (Int × Int) :=
  match pStart en (ts.length + 1) ts with
  | .bad e a => .inr (e, a)
  | .ok s r => if r = [] then (if validB s then .inl s else .inr (2, 0)) else .inr (failE r, failA en r)
def parse (text : Tx) : Sn ⊕ (Int × Int) :=
  match lex text with
  | .bad e a => .inr (e, a)
  | .ok ts => parseT text.length ts
/-! ### What is left is never more -/
theorem isT_ne {w : Tx} {ts : List Tok} (h : isT w ts = true) : ∃ t r, ts = t :: r := by
  cases ts with
  | nil => simp [isT] at h
  | cons t r => exact ⟨t, r, rfl⟩
/-- A reader leaves an end of what it was given. -/
def Ends (read : List Tok → Rd Sn) : Prop := ∀ ts x r, read ts = .ok x r → r <:+ ts
theorem suf_tail {ts r : List Tok} (h : r <:+ ts.tail) : r <:+ ts := h.trans (List.tail_suffix _)
theorem sevTail_ends {w : Tx} {read : List Tok → Rd Sn} (h : Ends read) : ∀ (n : Nat) (acc : List Sn) (ts : List Tok) (l : List Sn) (r : List Tok), sevTail w read n acc ts = .ok l r → r <:+ ts
  | 0, acc, ts, l, r, e => by cases e; exact List.suffix_rfl
  | n + 1, acc, ts, l, r, e => by
    simp only [sevTail] at e
    split at e
    · cases hr : read ts.tail with
      | bad e2 a2 => rw [hr] at e; cases e
      | ok x r2 =>
        rw [hr] at e
        exact (sevTail_ends h n _ _ _ _ e).trans (suf_tail (h _ _ _ hr))
    · cases e; exact List.suffix_rfl
theorem sev_ends {w : Tx} {op : Int} {read : List Tok → Rd Sn} (h : Ends read) : Ends (sev w op read) := by
  intro ts x r e
  unfold sev at e
  cases hr : read ts with
  | bad e2 a2 => rw [hr] at e; cases e
  | ok y r1 =>
    rw [hr] at e
    simp only at e
    cases ht : sevTail w read r1.length [y] r1 with
    | bad e2 a2 => rw [ht] at e; cases e
    | ok l r2 =>
      rw [ht] at e
      cases e
      exact (sevTail_ends h _ _ _ _ _ ht).trans (h _ _ _ hr)
theorem takeT_ends {en : Int} {k : Nat} {ts : List Tok} {t : Tok} {r : List Tok} (h : takeT en k ts = .ok t r) : ts = t :: r ∧ t.kind = k := by
  cases ts with
  | nil => cases h
  | cons u s =>
    simp only [takeT] at h
    split at h
    · cases h; exact ⟨rfl, by assumption⟩
    · cases h
theorem wordR_ends {en : Int} (op : Int) : Ends (wordR en op) := by
  intro ts x r e
  unfold wordR at e
  split at e
  · cases ht : takeT en 2 ts with
    | bad e2 a2 => rw [ht] at e; cases e
    | ok t r2 =>
      rw [ht] at e
      simp only at e
      obtain ⟨rfl, -⟩ := takeT_ends ht
      split at e
      · cases e
      · cases e; exact List.suffix_cons _ _
  · split at e
    · cases ht : takeT en 1 ts with
      | bad e2 a2 => rw [ht] at e; cases e
      | ok t r2 =>
        rw [ht] at e
        obtain ⟨rfl, -⟩ := takeT_ends ht
        cases e
        exact List.suffix_cons _ _
    · cases e; exact List.suffix_rfl
theorem pOne_ends (en : Int) : ∀ f, Ends (pOne en f)
  | 0 => by intro ts x r e; cases e
  | f + 1 => by
    intro ts x r e
    simp only [pOne] at e
    split at e
    · cases hs : sev kOr 9 (sev kAnd 8 (pOne en f)) ts.tail with
      | bad e2 a2 => rw [hs] at e; cases e
      | ok s r2 =>
        rw [hs] at e
        simp only at e
        have h1 := sev_ends (sev_ends (pOne_ends en f)) _ _ _ hs
        split at e
        · cases e
          exact suf_tail ((List.tail_suffix _).trans h1)
        · cases e
    · cases hf : wordL.find? fun p => isT p.1 ts with
      | none => rw [hf] at e; cases e
      | some p =>
        rw [hf] at e
        exact suf_tail (wordR_ends p.2 _ _ _ e)
theorem pAll_ends (en : Int) (f : Nat) : Ends (pAll en f) := sev_ends (pOne_ends en f)
theorem pStart_ends (en : Int) (f : Nat) : Ends (pStart en f) := sev_ends (pAll_ends en f)
end Go.Sta
