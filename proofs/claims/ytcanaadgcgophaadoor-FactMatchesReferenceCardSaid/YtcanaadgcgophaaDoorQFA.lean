/-
  Texts and their tokens: digits, words, symbols, line feeds, places; plain Lean.
-/
import Derived.Test.YtcanaadgcgophaaDoorQLX
import Derived.Test.YtcanaadgcgophaaDoorQP2
import Derived.Test.YtcanaadgcgophaaDoorQNn
set_option linter.unusedVariables false
set_option linter.unusedSimpArgs false
set_option linter.unnecessarySimpa false
set_option maxRecDepth 10000
namespace Go.Fac
open Go.Lexs
open Go.Fin (Nm)
abbrev Tx := List UInt8
def decS (n : Nat) : Tx := if h : n < 10 then [(48 + n).toUInt8] else decS (n / 10) ++ [(48 + n % 10).toUInt8]
theorem decS_small {n : Nat} (h : n < 10) : decS n = [(48 + n).toUInt8] := by rw [decS, dif_pos h]
theorem decS_big {n : Nat} (h : ¬ n < 10) : decS n = decS (n / 10) ++ [(48 + n % 10).toUInt8] := by rw [decS, dif_neg h]
theorem value_snoc (s : List UInt8) (c : UInt8) : value (s ++ [c]) = 10 * value s + (c.toNat - 48) := by
  simp [value, List.foldl_append]
theorem decS_len (k : Nat) : ∀ n, n < 10 ^ (k + 1) → (decS n).length ≤ k + 1 := by
  induction k with
  | zero => intro n h; rw [decS_small (by omega)]; simp
  | succ k ih =>
    intro n h
    by_cases h10 : n < 10
    · rw [decS_small h10]; simp
    · rw [decS_big h10, List.length_append]
      have := ih (n / 10) (by rw [Nat.pow_succ] at h; omega)
      simp only [List.length_singleton]
      omega
def tw (w : Tx) : Tok := ⟨1, w, 0, 0⟩
def AtLe (en : Int) (ts : List Tok) : Prop := ∀ t ∈ ts, (t.pos : Int) ≤ en
theorem gather_at : ∀ (fs : List Lexs.Found) (acc : List Tok) (n : Nat), (∀ x ∈ fs, x.tok.pos ≤ n) → (∀ t ∈ acc, t.pos ≤ n) → (∀ l, gather acc fs = .ok l → ∀ t ∈ l, t.pos ≤ n) ∧ ∀ e a, gather acc fs = .bad e a → a ≤ (n : Int)
  | [], acc, n, h, ha => ⟨fun l hl => by cases hl; exact ha, fun e a hl => by cases hl⟩
  | f :: fs, acc, n, h, ha => by
    have hf := h f List.mem_cons_self
    simp only [gather]
    split
    · exact ⟨fun _ hl => (by cases hl), fun e a hl => (by cases hl; omega)⟩
    · split
      · exact ⟨fun _ hl => (by cases hl), fun e a hl => (by cases hl; omega)⟩
      · refine gather_at fs _ n (fun x hx => h x (List.mem_cons_of_mem _ hx)) fun t ht => ?_
        rcases List.mem_append.1 ht with ht | ht
        · exact ha t ht
        · rw [List.mem_singleton.1 ht]; exact hf
theorem founds_at : ∀ (n a : Nat) (s : List UInt8), ∀ x ∈ founds n a s, x.tok.pos ≤ a + s.length
  | 0, a, s, x, hx => by simp [founds] at hx
  | n + 1, a, s, x, hx => by
    have hk := skip_length false s
    simp only [founds] at hx
    cases hs : skip false s with
    | nil => rw [hs] at hx; simp at hx
    | cons c s' =>
      rw [hs] at hx hk
      simp only [List.mem_cons] at hx
      rcases hx with rfl | hx
      · simp only [found]; omega
      · split at hx
        · rename_i he
          have h1 := founds_at n _ _ x hx
          rw [List.length_drop] at h1
          have h2 := one_len_le (c :: s') (List.cons_ne_nil _ _)
          omega
        · cases hx
theorem lex_at {s : Tx} : (∀ l, lex s = .ok l → AtLe s.length l) ∧ ∀ e a, lex s = .bad e a → a ≤ (s.length : Int) := by
  unfold lex
  split
  · exact ⟨fun l h => (by cases h), fun e a h => (by cases h; omega)⟩
  · have := gather_at (founds s.length 0 s) [] s.length (fun x hx => by have := founds_at _ _ _ x hx; omega) (fun t h => nomatch h)
    exact ⟨fun l hl t ht => by have := this.1 l hl t ht; omega, this.2⟩
theorem gather_all {Q : Tok → Prop} : ∀ (fs : List Lexs.Found) (acc l : List Tok), (∀ x ∈ fs, x.err = 0 → Q x.tok) → (∀ t ∈ acc, Q t) → acc.length ≤ 5000 → gather acc fs = .ok l → (∀ t ∈ l, Q t) ∧ l.length ≤ 5000
  | [], acc, l, h, ha, hn, hg => by cases hg; exact ⟨ha, hn⟩
  | f :: fs, acc, l, h, ha, hn, hg => by
    simp only [gather] at hg
    split at hg
    · cases hg
    · rename_i he
      split at hg
      · cases hg
      · refine gather_all fs _ l (fun x hx => h x (List.mem_cons_of_mem _ hx)) (fun t ht => ?_) (by simp; omega) hg
        rcases List.mem_append.1 ht with ht | ht
        · exact ha t ht
        · rw [List.mem_singleton.1 ht]
          exact h f List.mem_cons_self (by simpa using he)
theorem founds_all {Q : Tok → Prop} (hq : ∀ (a : Nat) (s : Tx), s ≠ [] → skip false s = s → (one s).err = 0 → Q (found a s).tok) : ∀ (n a : Nat) (s : Tx), ∀ x ∈ founds n a s, x.err = 0 → Q x.tok
  | 0, a, s, x, hx, _ => by simp [founds] at hx
  | n + 1, a, s, x, hx, he => by
    simp only [founds] at hx
    cases hs : skip false s with
    | nil => rw [hs] at hx; simp at hx
    | cons c s' =>
      have hk : skip false (c :: s') = c :: s' := by rw [← hs]; exact skip_skip false s
      rw [hs] at hx
      simp only [List.mem_cons] at hx
      rcases hx with rfl | hx
      · exact hq _ _ (List.cons_ne_nil _ _) hk he
      · split at hx
        · exact founds_all hq n _ _ x hx he
        · cases hx
theorem lex_all {Q : Tok → Prop} (hq : ∀ (a : Nat) (s : Tx), s ≠ [] → skip false s = s → (one s).err = 0 → Q (found a s).tok) {s : Tx} {l : List Tok} (h : lex s = .ok l) : (∀ t ∈ l, Q t) ∧ l.length ≤ 5000 := by
  unfold lex at h
  split at h
  · cases h
  · exact gather_all _ [] l (founds_all hq _ _ _) (fun t ht => nomatch ht) (by decide) h
theorem spanLen_all_take {p : UInt8 → Bool} : ∀ (s : Tx), (s.take (spanLen p s)).all p = true
  | [] => rfl
  | c :: s => by
    simp only [spanLen]
    by_cases h : p c = true
    · rw [if_pos h, List.take_succ_cons, List.all_cons, h, spanLen_all_take s]; rfl
    · rw [if_neg h]; rfl
theorem one_if {q : Prop} [Decidable q] {a b : One} (ha : a.kind = 2) (hb : b.kind = 2) : (if q then a else b).kind = 2 := by split <;> assumption
theorem found_name (a : Nat) (s : Tx) (hne : s ≠ []) (he : (one s).err = 0) (hk : (one s).kind = 1) : Nm (found a s).tok.text = true := by
  show Nm (s.take (one s).len) = true
  cases s with
  | nil => exact absurd rfl hne
  | cons c s =>
    have hd3 : cls c = 3 := by
      unfold one at hk
      simp only [hd] at hk
      split at hk
      · assumption
      · exact absurd (hk.symm.trans (one_if rfl rfl)) (by decide)
      · cases hk
      · cases hk
      · split at hk <;> cases hk
      · cases hk
    have ho : one (c :: s) = ⟨1, spanLen isWord (c :: s), 0, if 24 < spanLen isWord (c :: s) then 2 else 0⟩ := by
      unfold one
      simp only [hd, hd3]
    rw [ho] at he ⊢
    simp only at he ⊢
    have hlen : spanLen isWord (c :: s) ≤ 24 := by
      by_cases h : 24 < spanLen isWord (c :: s)
      · rw [if_pos h] at he; cases he
      · omega
    have hw : isWord c = true := by simp [isWord, hd3]
    have hall := spanLen_all_take (p := isWord) (c :: s)
    have e : spanLen isWord (c :: s) = spanLen isWord s + 1 := by simp only [spanLen]; rw [if_pos hw]
    have hl := List.length_take_le (spanLen isWord (c :: s)) (c :: s)
    unfold Nm
    rw [Bool.and_eq_true, decide_eq_true_eq]
    refine ⟨hall, ?_, by omega, ?_⟩
    · rw [e, List.take_succ_cons]; simp
    · rw [e, List.take_succ_cons]; exact hd3
def TokOk (t : Tok) : Prop := t.text.length ≤ 1000000 ∧ (t.kind = 1 → Nm t.text = true)
theorem lex_tok {s : Tx} {l : List Tok} (h : lex s = .ok l) : (∀ t ∈ l, TokOk t) ∧ l.length ≤ 5000 := by
  have hs : s.length ≤ 20000 := by
    unfold lex at h
    split at h
    · cases h
    · omega
  have h1 : (∀ t ∈ l, t.kind = 1 → Nm t.text = true) ∧ l.length ≤ 5000 := lex_all (fun a s hne _ he hk => found_name a s hne he hk) h
  refine ⟨fun t ht => ⟨?_, h1.1 t ht⟩, h1.2⟩
  have h2 : ∀ (n a : Nat) (s : Tx), ∀ x ∈ founds n a s, x.tok.text.length ≤ s.length := by
    intro n
    induction n with
    | zero => intro a s x hx; simp [founds] at hx
    | succ n ih =>
      intro a s x hx
      have hk := skip_length false s
      simp only [founds] at hx
      cases hs : skip false s with
      | nil => rw [hs] at hx; simp at hx
      | cons c s' =>
        rw [hs] at hx hk
        simp only [List.mem_cons] at hx
        rcases hx with rfl | hx
        · have := List.length_take_le (one (c :: s')).len (c :: s')
          have := List.length_take_le' (one (c :: s')).len (c :: s')
          simp only [found]
          omega
        · split at hx
          · have h3 := ih _ _ x hx
            rw [List.length_drop] at h3
            omega
          · cases hx
  have h4 : (∀ t ∈ l, t.text.length ≤ s.length) ∧ l.length ≤ 5000 := by
    unfold lex at h
    rw [if_neg (by omega)] at h
    exact gather_all _ [] l (fun x hx _ => h2 _ _ _ x hx) (fun t ht => nomatch ht) (by decide) h
  have := h4.1 t ht
  omega
theorem gather_ne : ∀ (fs : List Lexs.Found) (acc : List Tok) (e : Nat) (a : Int), Lexs.gather acc fs = .bad e a → e ≠ 0
  | [], acc, e, a, h => by cases h
  | f :: fs, acc, e, a, h => by
    simp only [Lexs.gather] at h
    split at h
    · cases h; assumption
    · split at h
      · cases h; decide
      · exact gather_ne fs _ e a h
theorem lex_ne {s : Tx} {e : Nat} {a : Int} (h : lex s = .bad e a) : e ≠ 0 := by
  unfold Lexs.lex at h
  split at h
  · cases h; decide
  · exact gather_ne _ _ _ _ h
end Go.Fac

set_option linter.unusedVariables false
set_option linter.unusedSimpArgs false
set_option linter.unnecessarySimpa false
set_option maxRecDepth 10000
namespace Go.Fo
open Go.Lexs Go.Fin
structure Fact where
  name : List UInt8
  kind : Int
  lo : Int
  hi : Int
  deriving DecidableEq

def factOk (f : Fact) : Bool := ((decide (f.kind = 1) && decide (f.lo = 0) && decide (f.hi = 1)) || ((decide (f.kind = 2) || decide (f.kind = 3)) && decide (0 ≤ f.lo) && decide (f.lo ≤ f.hi) && decide (f.hi ≤ 1000000))) && Nm f.name

def idx (F : List Fact) (s : List UInt8) : Option Nat := F.findIdx? fun f => decide (f.name = s)
def idxI (F : List Fact) (s : List UInt8) : Int := match idx F s with | some i => (i : Int) | none => -1

def validD (F : List Fact) : Bool := F.all factOk && decide ((F.map (·.name)).Nodup) && decide (F.length ≤ 60)

def fitsC : List Fact → List Int → Bool
  | [], [] => true
  | f :: F, z :: c => decide (f.lo ≤ z) && decide (z ≤ f.hi) && fitsC F c
  | _, _ => false
def fitsB (F : List Fact) (c : List Int) : Bool := validD F && fitsC F c
end Go.Fo

set_option linter.unusedVariables false
set_option linter.unusedSimpArgs false
set_option linter.unnecessarySimpa false
set_option maxRecDepth 10000
namespace Go.Fac
open Go.Lexs (Tok lex)
open Go.Fo
inductive Rd (α : Type) where
  | ok (x : α) (r : List Tok)
  | bad (e at_ : Int)
def failE : List Tok → Int
  | [] => 6
  | _ :: _ => 5
def failA (en : Int) : List Tok → Int
  | [] => en
  | t :: _ => t.pos
def failR {α : Type} (en : Int) (ts : List Tok) : Rd α := .bad (failE ts) (failA en ts)
def Rd.bind {α β : Type} (x : Rd α) (f : α → List Tok → Rd β) : Rd β := match x with
  | .ok y r => f y r
  | .bad e a => .bad e a
def kFlag : Tx := [102, 108, 97, 103]
def kNumber : Tx := [110, 117, 109, 98, 101, 114]
def kDay : Tx := [100, 97, 121]
def kTo : Tx := [116, 111]
def kSemi : Tx := [59]
def kEq : Tx := [61]
def kComma : Tx := [44]
def seesB (k : Nat) (w : Tx) : List Tok → Bool
  | [] => false
  | t :: _ => decide (t.kind = k) && (decide (w = []) || decide (t.text = w))
def takeK (en : Int) (k : Nat) (w : Tx) : List Tok → Rd Tok
  | [] => failR en []
  | t :: r => if seesB k w (t :: r) then .ok t r else failR en (t :: r)
def kindOf (w : Tx) : Int := if w = kFlag then 1 else if w = kNumber then 2 else if w = kDay then 3 else 0
def spanP (en : Int) (ts : List Tok) : Rd (Int × Int) :=
  (takeK en 2 [] ts).bind fun lo r => if 1000000 < lo.num then .bad 10 lo.pos else
    (takeK en 1 kTo r).bind fun _ r => (takeK en 2 [] r).bind fun hi r => if 1000000 < hi.num ∨ hi.num < lo.num then .bad 10 hi.pos else .ok ((lo.num : Int), (hi.num : Int)) r
def factP (en : Int) (F : List Fact) (ts : List Tok) : Rd Fact :=
  (takeK en 1 [] ts).bind fun name r => if (idx F name.text).isSome then .bad 9 name.pos else if F.length = 60 then .bad 2 name.pos else
    (takeK en 1 [] r).bind fun word r => if kindOf word.text = 0 then .bad 5 word.pos else
      (if kindOf word.text = 1 then Rd.ok ((0 : Int), (1 : Int)) r else spanP en r).bind fun p r => (takeK en 3 kSemi r).bind fun _ r => .ok ⟨name.text, kindOf word.text, p.1, p.2⟩ r
def factsP (en : Int) : Nat → List Fact → List Tok → List Fact ⊕ (Int × Int)
  | 0, F, _ => .inl F
  | n + 1, F, ts => if ts = [] then .inl F else match factP en F ts with
    | .bad e a => .inr (e, a)
    | .ok f r => factsP en n (F ++ [f]) r
def parseT (en : Int) (ts : List Tok) : List Fact ⊕ (Int × Int) := factsP en ts.length [] ts
def parseD (text : Tx) : List Fact ⊕ (Int × Int) := match lex text with
  | .bad e a => .inr (e, a)
  | .ok ts => parseT text.length ts
/-! ### Cases -/
def factAt (F : List Fact) (i : Nat) : Fact := F.getD i ⟨[], 0, 0, 0⟩
def itemP (en : Int) (F : List Fact) (seen : List Bool) (first : Bool) (ts : List Tok) : Rd (Nat × Int) :=
  (if first then Rd.ok () ts else (takeK en 3 kComma ts).bind fun _ r => .ok () r).bind fun _ r => (takeK en 1 [] r).bind fun name r => match idx F name.text with
    | none => .bad 7 name.pos
    | some i => if seen.getD i false then .bad 9 name.pos else (takeK en 3 kEq r).bind fun _ r => (takeK en 2 [] r).bind fun n r => if (n.num : Int) < (factAt F i).lo ∨ (factAt F i).hi < (n.num : Int) then .bad 10 n.pos else .ok (i, (n.num : Int)) r
def itemsP (en : Int) (F : List Fact) : Nat → Bool → List Int → List Bool → List Tok → List Int ⊕ (Int × Int)
  | 0, _, c, seen, _ => if seen.all id then .inl c else .inr (11, en)
  | n + 1, first, c, seen, ts => if ts = [] then (if seen.all id then .inl c else .inr (11, en)) else match itemP en F seen first ts with
    | .bad e a => .inr (e, a)
    | .ok p r => itemsP en F n false (c.set p.1 p.2) (seen.set p.1 true) r
def caseT (en : Int) (F : List Fact) (ts : List Tok) : List Int ⊕ (Int × Int) := itemsP en F ts.length true (List.replicate F.length 0) (List.replicate F.length false) ts
def parseC (F : List Fact) (text : Tx) : List Int ⊕ (Int × Int) := if validD F then (match lex text with
  | .bad e a => .inr (e, a)
  | .ok ts => caseT text.length F ts) else .inr (1, 0)
/-! ### Canonical texts -/
def kindW (f : Fact) : Tx := if f.kind = 2 then kNumber else kDay
def factS (f : Fact) : Tx := if f.kind = 1 then f.name ++ (32 :: kFlag ++ [59, 10]) else f.name ++ (32 :: kindW f ++ (32 :: decS f.lo.toNat ++ (32 :: kTo ++ (32 :: decS f.hi.toNat ++ [59, 10]))))
def textD (F : List Fact) : Tx := if validD F then F.flatMap factS else []
def itemS (f : Fact) (z : Int) : Tx := f.name ++ (32 :: kEq ++ (32 :: decS z.toNat))
def itemsS (F : List Fact) (c : List Int) : List Tx := List.zipWith itemS F c
def joinC : List Tx → Tx
  | [] => []
  | [t] => t
  | t :: u :: l => t ++ (44 :: 32 :: joinC (u :: l))
def textC (F : List Fact) (c : List Int) : Tx := if fitsB F c then joinC (itemsS F c) else []
/-! ### The next case -/
def leastC (F : List Fact) : List Int := if validD F then F.map (·.lo) else []
def nextL : List Fact → List Int → Option (List Int)
  | f :: F, z :: c => match nextL F c with
    | some d => some (z :: d)
    | none => if z < f.hi then some ((z + 1) :: F.map (·.lo)) else none
  | _, _ => none
def nextC (F : List Fact) (c : List Int) : Option (List Int) := if fitsB F c then nextL F c else none
/-! ### Small facts -/
theorem bind_ok {α β : Type} {x : Rd α} {f : α → List Tok → Rd β} {y : β} {r : List Tok} (h : x.bind f = .ok y r) : ∃ z s, x = .ok z s ∧ f z s = .ok y r := by
  cases x with
  | ok z s => exact ⟨z, s, rfl, h⟩
  | bad e a => cases h
theorem takeK_ok {en : Int} {k : Nat} {w : Tx} {ts : List Tok} {t : Tok} {r : List Tok} (h : takeK en k w ts = .ok t r) : ts = t :: r ∧ t.kind = k ∧ (w = [] ∨ t.text = w) := by
  cases ts with
  | nil => cases h
  | cons u s =>
    simp only [takeK] at h
    split at h
    · rename_i hs
      cases h
      simp only [seesB, Bool.and_eq_true, Bool.or_eq_true, decide_eq_true_eq] at hs
      exact ⟨rfl, hs.1, hs.2⟩
    · cases h
def Ends {α : Type} (read : List Tok → Rd α) : Prop := ∀ ts x r, read ts = .ok x r → r <:+ ts
theorem takeK_ends (en : Int) (k : Nat) (w : Tx) : Ends (takeK en k w) := fun ts x r h => by obtain ⟨rfl, -⟩ := takeK_ok h; exact List.suffix_cons _ _
theorem ok_ends {α : Type} (x : α) : Ends (Rd.ok x) := fun ts y r h => by cases h; exact List.suffix_rfl
theorem bad_ends {α : Type} (e a : Int) : Ends (fun _ => (Rd.bad e a : Rd α)) := fun ts y r h => nomatch h
theorem bind_ends {α β : Type} {x : List Tok → Rd α} {f : α → List Tok → Rd β} (hx : Ends x) (hf : ∀ y, Ends (f y)) : Ends (fun ts => (x ts).bind f) := fun ts y r h => by
  obtain ⟨z, s, h1, h2⟩ := bind_ok h
  exact (hf z _ _ _ h2).trans (hx _ _ _ h1)
theorem if_ends {α : Type} {q : Prop} [Decidable q] {f g : List Tok → Rd α} (hf : Ends f) (hg : Ends g) : Ends (fun ts => if q then f ts else g ts) := by
  by_cases h : q
  · simpa only [if_pos h] using hf
  · simpa only [if_neg h] using hg
theorem spanP_ends (en : Int) : Ends (spanP en) := bind_ends (takeK_ends _ _ _) fun lo => if_ends (bad_ends _ _) (bind_ends (takeK_ends _ _ _) fun _ => bind_ends (takeK_ends _ _ _) fun hi => if_ends (bad_ends _ _) (ok_ends _))
theorem factP_ends (en : Int) (F : List Fact) : Ends (factP en F) := bind_ends (takeK_ends _ _ _) fun name => if_ends (bad_ends _ _) (if_ends (bad_ends _ _) (bind_ends (takeK_ends _ _ _) fun word => if_ends (bad_ends _ _) (bind_ends (if_ends (ok_ends _) (spanP_ends en)) fun p => bind_ends (takeK_ends _ _ _) fun _ => ok_ends _)))
theorem factP_lt {en : Int} {F : List Fact} {ts : List Tok} {f : Fact} {r : List Tok} (h : factP en F ts = .ok f r) : r.length < ts.length := by
  unfold factP at h
  obtain ⟨name, s, h1, h2⟩ := bind_ok h
  obtain ⟨rfl, -⟩ := takeK_ok h1
  have := (if_ends (q := (idx F name.text).isSome = true) (bad_ends 9 name.pos) (if_ends (q := F.length = 60) (bad_ends 2 name.pos) (bind_ends (takeK_ends en 1 []) fun word => if_ends (q := kindOf word.text = 0) (bad_ends 5 word.pos) (bind_ends (if_ends (q := kindOf word.text = 1) (ok_ends ((0 : Int), (1 : Int))) (spanP_ends en)) fun p => bind_ends (takeK_ends en 3 kSemi) fun _ => ok_ends (⟨name.text, kindOf word.text, p.1, p.2⟩ : Fact))))) _ _ _ h2
  have := this.length_le
  simp only [List.length_cons]
  omega
end Go.Fac
