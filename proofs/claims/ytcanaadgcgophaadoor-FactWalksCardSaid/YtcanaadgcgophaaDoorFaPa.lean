/-
  Domains and cases: canonical texts, what the parsers answer, the next case; plain Lean.
-/
import Derived.Test.YtcanaadgcgophaaDoorFaTx
import Derived.Test.YtcanaadgcgophaaDoorFaSpec
set_option linter.unusedVariables false
set_option linter.unusedSimpArgs false
set_option linter.unnecessarySimpa false
set_option maxRecDepth 10000
namespace Go.Fac
open Go.Lexs (Tok lex)
open Go.Fo
/-- An answer of the reader: a thing and what is left; or an error and its place. -/
inductive Rd (α : Type) where
  | ok (x : α) (r : List Tok)
  | bad (e at_ : Int)
def failE : List Tok → Int
  | [] => 6
  | _ :: _ => 5
def failA (en : Int) : List Tok → Int
  | [] => en
  | t :: _ => t.pos
def failR {α : Type} (en : Int) (ts : List Tok) : Rd α := .bad (failE ts) (failA en ts)
def Rd.bind {α β : Type} (x : Rd α) (f : α → List Tok → Rd β) : Rd β := match x with
  | .ok y r => f y r
  | .bad e a => .bad e a
def kFlag : Tx := [102, 108, 97, 103]
def kNumber : Tx := [110, 117, 109, 98, 101, 114]
def kDay : Tx := [100, 97, 121]
def kTo : Tx := [116, 111]
def kSemi : Tx := [59]
def kEq : Tx := [61]
def kComma : Tx := [44]
/-- Does the next token have a kind, and a text unless that is empty? -/
def seesB (k : Nat) (w : Tx) : List Tok → Bool
  | [] => false
  | t :: _ => decide (t.kind = k) && (decide (w = []) || decide (t.text = w))
def takeK (en : Int) (k : Nat) (w : Tx) : List Tok → Rd Tok
  | [] => failR en []
  | t :: r => if seesB k w (t :: r) then .ok t r else failR en (t :: r)
def kindOf (w : Tx) : Int := if w = kFlag then 1 else if w = kNumber then 2 else if w = kDay then 3 else 0
/-- The range of a fact. -/
def spanP (en : Int) (ts : List Tok) : Rd (Int × Int) :=
  (takeK en 2 [] ts).bind fun lo r => if 1000000 < lo.num then .bad 10 lo.pos else
    (takeK en 1 kTo r).bind fun _ r => (takeK en 2 [] r).bind fun hi r => if 1000000 < hi.num ∨ hi.num < lo.num then .bad 10 hi.pos else .ok ((lo.num : Int), (hi.num : Int)) r
def factP (en : Int) (F : List Fact) (ts : List Tok) : Rd Fact :=
  (takeK en 1 [] ts).bind fun name r => if (idx F name.text).isSome then .bad 9 name.pos else if F.length = 60 then .bad 2 name.pos else
    (takeK en 1 [] r).bind fun word r => if kindOf word.text = 0 then .bad 5 word.pos else
      (if kindOf word.text = 1 then Rd.ok ((0 : Int), (1 : Int)) r else spanP en r).bind fun p r => (takeK en 3 kSemi r).bind fun _ r => .ok ⟨name.text, kindOf word.text, p.1, p.2⟩ r
/-- All facts that are left. -/
def factsP (en : Int) : Nat → List Fact → List Tok → List Fact ⊕ (Int × Int)
  | 0, F, _ => .inl F
  | n + 1, F, ts => if ts = [] then .inl F else match factP en F ts with
    | .bad e a => .inr (e, a)
    | .ok f r => factsP en n (F ++ [f]) r
def parseT (en : Int) (ts : List Tok) : List Fact ⊕ (Int × Int) := factsP en ts.length [] ts
def parseD (text : Tx) : List Fact ⊕ (Int × Int) := match lex text with
  | .bad e a => .inr (e, a)
  | .ok ts => parseT text.length ts
/-! ### Cases -/
def factAt (F : List Fact) (i : Nat) : Fact := F.getD i ⟨[], 0, 0, 0⟩
def itemP (en : Int) (F : List Fact) (seen : List Bool) (first : Bool) (ts : List Tok) : Rd (Nat × Int) :=
  (if first then Rd.ok () ts else (takeK en 3 kComma ts).bind fun _ r => .ok () r).bind fun _ r => (takeK en 1 [] r).bind fun name r => match idx F name.text with
    | none => .bad 7 name.pos
    | some i => if seen.getD i false then .bad 9 name.pos else (takeK en 3 kEq r).bind fun _ r => (takeK en 2 [] r).bind fun n r => if (n.num : Int) < (factAt F i).lo ∨ (factAt F i).hi < (n.num : Int) then .bad 10 n.pos else .ok (i, (n.num : Int)) r
def itemsP (en : Int) (F : List Fact) : Nat → Bool → List Int → List Bool → List Tok → List Int ⊕ (Int × Int)
  | 0, _, c, seen, _ => if seen.all id then .inl c else .inr (11, en)
  | n + 1, first, c, seen, ts => if ts = [] then (if seen.all id then .inl c else .inr (11, en)) else match itemP en F seen first ts with
    | .bad e a => .inr (e, a)
    | .ok p r => itemsP en F n false (c.set p.1 p.2) (seen.set p.1 true) r
def caseT (en : Int) (F : List Fact) (ts : List Tok) : List Int ⊕ (Int × Int) := itemsP en F ts.length true (List.replicate F.length 0) (List.replicate F.length false) ts
def parseC (F : List Fact) (text : Tx) : List Int ⊕ (Int × Int) := if validD F then (match lex text with
  | .bad e a => .inr (e, a)
  | .ok ts => caseT text.length F ts) else .inr (1, 0)
/-! ### Canonical texts -/
def kindW (f : Fact) : Tx := if f.kind = 2 then kNumber else kDay
def factS (f : Fact) : Tx := if f.kind = 1 then f.name ++ (32 :: kFlag ++ [59, 10]) else f.name ++ (32 :: kindW f ++ (32 :: decS f.lo.toNat ++ (32 :: kTo ++ (32 :: decS f.hi.toNat ++ [59, 10]))))
def textD (F : List Fact) : Tx := if validD F then F.flatMap factS else []
def itemS (f : Fact) (z : Int) : Tx := f.name ++ (32 :: kEq ++ (32 :: decS z.toNat))
def itemsS (F : List Fact) (c : List Int) : List Tx := List.zipWith itemS F c
def joinC : List Tx → Tx
  | [] => []
  | [t] => t
  | t :: u :: l => t ++ (44 :: 32 :: joinC (u :: l))
def textC (F : List Fact) (c : List Int) : Tx := if fitsB F c then joinC (itemsS F c) else []
/-! ### The next case -/
def leastC (F : List Fact) : List Int := if validD F then F.map (·.lo) else []
def nextL : List Fact → List Int → Option (List Int)
  | f :: F, z :: c => match nextL F c with
    | some d => some (z :: d)
    | none => if z < f.hi then some ((z + 1) :: F.map (·.lo)) else none
  | _, _ => none
def nextC (F : List Fact) (c : List Int) : Option (List Int) := if fitsB F c then nextL F c else none
/-! ### Small facts -/
theorem bind_ok {α β : Type} {x : Rd α} {f : α → List Tok → Rd β} {y : β} {r : List Tok} (h : x.bind f = .ok y r) : ∃ z s, x = .ok z s ∧ f z s = .ok y r := by
  cases x with
  | ok z s => exact ⟨z, s, rfl, h⟩
  | bad e a => cases h
theorem bind_bad {α β : Type} {x : Rd α} {f : α → List Tok → Rd β} {e a : Int} (h : x.bind f = .bad e a) : x = .bad e a ∨ ∃ z s, x = .ok z s ∧ f z s = .bad e a := by
  cases x with
  | ok z s => exact .inr ⟨z, s, rfl, h⟩
  | bad e2 a2 => cases h; exact .inl rfl
theorem takeK_ok {en : Int} {k : Nat} {w : Tx} {ts : List Tok} {t : Tok} {r : List Tok} (h : takeK en k w ts = .ok t r) : ts = t :: r ∧ t.kind = k ∧ (w = [] ∨ t.text = w) := by
  cases ts with
  | nil => cases h
  | cons u s =>
    simp only [takeK] at h
    split at h
    · rename_i hs
      cases h
      simp only [seesB, Bool.and_eq_true, Bool.or_eq_true, decide_eq_true_eq] at hs
      exact ⟨rfl, hs.1, hs.2⟩
    · cases h
theorem takeK_bad {en : Int} {k : Nat} {w : Tx} {ts : List Tok} {e a : Int} (h : takeK en k w ts = .bad e a) : e = failE ts ∧ a = failA en ts := by
  cases ts with
  | nil => cases h; exact ⟨rfl, rfl⟩
  | cons u s =>
    simp only [takeK] at h
    split at h
    · cases h
    · cases h; exact ⟨rfl, rfl⟩
theorem failE_ne (ts : List Tok) : failE ts ≠ 0 := by cases ts <;> simp [failE]
theorem failA_le {en : Int} {ts : List Tok} (h : AtLe en ts) : failA en ts ≤ en := by
  cases ts with
  | nil => exact Int.le_refl _
  | cons t r => exact h t List.mem_cons_self
/-- An answer leaves an end of what it was given. -/
def Ends {α : Type} (read : List Tok → Rd α) : Prop := ∀ ts x r, read ts = .ok x r → r <:+ ts
/-- Errors are errors. -/
def Ne {α : Type} (read : List Tok → Rd α) : Prop := ∀ ts e a, read ts = .bad e a → e ≠ 0
/-- Errors are at places of tokens. -/
def Le {α : Type} (en : Int) (read : List Tok → Rd α) : Prop := ∀ ts e a, AtLe en ts → read ts = .bad e a → a ≤ en
theorem takeK_ends (en : Int) (k : Nat) (w : Tx) : Ends (takeK en k w) := fun ts x r h => by obtain ⟨rfl, -⟩ := takeK_ok h; exact List.suffix_cons _ _
theorem takeK_ne (en : Int) (k : Nat) (w : Tx) : Ne (takeK en k w) := fun ts e a h => by rw [(takeK_bad h).1]; exact failE_ne _
theorem takeK_le (en : Int) (k : Nat) (w : Tx) : Le en (takeK en k w) := fun ts e a hl h => by rw [(takeK_bad h).2]; exact failA_le hl
theorem ok_ends {α : Type} (x : α) : Ends (Rd.ok x) := fun ts y r h => by cases h; exact List.suffix_rfl
theorem ok_ne {α : Type} (x : α) : Ne (Rd.ok x) := fun ts e a h => nomatch h
theorem ok_le {α : Type} (en : Int) (x : α) : Le en (Rd.ok x) := fun ts e a hl h => nomatch h
theorem bad_ends {α : Type} (e a : Int) : Ends (fun _ => (Rd.bad e a : Rd α)) := fun ts y r h => nomatch h
theorem bad_ne {α : Type} {e : Int} (a : Int) (he : e ≠ 0) : Ne (fun _ => (Rd.bad e a : Rd α)) := fun ts e2 a2 h => by cases h; exact he
theorem bad_le {α : Type} {en a : Int} (e : Int) (h : a ≤ en) : Le en (fun _ => (Rd.bad e a : Rd α)) := fun ts e2 a2 hl h2 => by cases h2; exact h
theorem bind_ends {α β : Type} {x : List Tok → Rd α} {f : α → List Tok → Rd β} (hx : Ends x) (hf : ∀ y, Ends (f y)) : Ends (fun ts => (x ts).bind f) := fun ts y r h => by
  obtain ⟨z, s, h1, h2⟩ := bind_ok h
  exact (hf z _ _ _ h2).trans (hx _ _ _ h1)
theorem bind_ne {α β : Type} {x : List Tok → Rd α} {f : α → List Tok → Rd β} (hx : Ne x) (hf : ∀ y, Ne (f y)) : Ne (fun ts => (x ts).bind f) := fun ts e a h => by
  rcases bind_bad h with h1 | ⟨z, s, h1, h2⟩
  · exact hx _ _ _ h1
  · exact hf z _ _ _ h2
theorem bind_le {α β : Type} {en : Int} {x : List Tok → Rd α} {f : α → List Tok → Rd β} (hx : Le en x) (he : Ends x) (hf : ∀ y, Le en (f y)) : Le en (fun ts => (x ts).bind f) := fun ts e a hl h => by
  rcases bind_bad h with h1 | ⟨z, s, h1, h2⟩
  · exact hx _ _ _ hl h1
  · exact hf z _ _ _ (hl.suf (he _ _ _ h1)) h2
/-- The same, where what follows looks at the token's place. -/
theorem take_le {β : Type} {en : Int} {k : Nat} {w : Tx} {f : Tok → List Tok → Rd β} (hf : ∀ t : Tok, (t.pos : Int) ≤ en → Le en (f t)) : Le en (fun ts => (takeK en k w ts).bind f) := fun ts e a hl h => by
  rcases bind_bad h with h1 | ⟨t, s, h1, h2⟩
  · exact takeK_le _ _ _ _ _ _ hl h1
  · obtain ⟨rfl, -⟩ := takeK_ok h1
    exact hf t (hl t List.mem_cons_self) _ _ _ (hl.suf (List.suffix_cons _ _)) h2
theorem if_ends {α : Type} {q : Prop} [Decidable q] {f g : List Tok → Rd α} (hf : Ends f) (hg : Ends g) : Ends (fun ts => if q then f ts else g ts) := by
  by_cases h : q
  · simpa only [if_pos h] using hf
  · simpa only [if_neg h] using hg
theorem if_ne {α : Type} {q : Prop} [Decidable q] {f g : List Tok → Rd α} (hf : Ne f) (hg : Ne g) : Ne (fun ts => if q then f ts else g ts) := by
  by_cases h : q
  · simpa only [if_pos h] using hf
  · simpa only [if_neg h] using hg
theorem if_le {α : Type} {en : Int} {q : Prop} [Decidable q] {f g : List Tok → Rd α} (hf : Le en f) (hg : Le en g) : Le en (fun ts => if q then f ts else g ts) := by
  by_cases h : q
  · simpa only [if_pos h] using hf
  · simpa only [if_neg h] using hg
theorem spanP_ends (en : Int) : Ends (spanP en) := bind_ends (takeK_ends _ _ _) fun lo => if_ends (bad_ends _ _) (bind_ends (takeK_ends _ _ _) fun _ => bind_ends (takeK_ends _ _ _) fun hi => if_ends (bad_ends _ _) (ok_ends _))
theorem spanP_ne (en : Int) : Ne (spanP en) := bind_ne (takeK_ne _ _ _) fun lo => if_ne (bad_ne _ (by decide)) (bind_ne (takeK_ne _ _ _) fun _ => bind_ne (takeK_ne _ _ _) fun hi => if_ne (bad_ne _ (by decide)) (ok_ne _))
theorem spanP_le (en : Int) : Le en (spanP en) := take_le fun lo hlo => if_le (bad_le _ hlo) (take_le fun _ _ => take_le fun hi hhi => if_le (bad_le _ hhi) (ok_le _ _))
theorem factP_ends (en : Int) (F : List Fact) : Ends (factP en F) := bind_ends (takeK_ends _ _ _) fun name => if_ends (bad_ends _ _) (if_ends (bad_ends _ _) (bind_ends (takeK_ends _ _ _) fun word => if_ends (bad_ends _ _) (bind_ends (if_ends (ok_ends _) (spanP_ends en)) fun p => bind_ends (takeK_ends _ _ _) fun _ => ok_ends _)))
theorem factP_ne (en : Int) (F : List Fact) : Ne (factP en F) := bind_ne (takeK_ne _ _ _) fun name => if_ne (bad_ne _ (by decide)) (if_ne (bad_ne _ (by decide)) (bind_ne (takeK_ne _ _ _) fun word => if_ne (bad_ne _ (by decide)) (bind_ne (if_ne (ok_ne _) (spanP_ne en)) fun p => bind_ne (takeK_ne _ _ _) fun _ => ok_ne _)))
theorem factP_le (en : Int) (F : List Fact) : Le en (factP en F) := take_le fun name hn => if_le (bad_le _ hn) (if_le (bad_le _ hn) (take_le fun word hw => if_le (bad_le _ hw) (bind_le (if_le (ok_le _ _) (spanP_le en)) (if_ends (ok_ends _) (spanP_ends en)) fun p => take_le fun _ _ => ok_le _ _)))
/-- Each fact takes tokens. -/
theorem factP_lt {en : Int} {F : List Fact} {ts : List Tok} {f : Fact} {r : List Tok} (h : factP en F ts = .ok f r) : r.length < ts.length := by
  unfold factP at h
  obtain ⟨name, s, h1, h2⟩ := bind_ok h
  obtain ⟨rfl, -⟩ := takeK_ok h1
  have := (if_ends (q := (idx F name.text).isSome = true) (bad_ends 9 name.pos) (if_ends (q := F.length = 60) (bad_ends 2 name.pos) (bind_ends (takeK_ends en 1 []) fun word => if_ends (q := kindOf word.text = 0) (bad_ends 5 word.pos) (bind_ends (if_ends (q := kindOf word.text = 1) (ok_ends ((0 : Int), (1 : Int))) (spanP_ends en)) fun p => bind_ends (takeK_ends en 3 kSemi) fun _ => ok_ends (⟨name.text, kindOf word.text, p.1, p.2⟩ : Fact))))) _ _ _ h2
  have := this.length_le
  simp only [List.length_cons]
  omega
theorem factsP_ne {en : Int} : ∀ (n : Nat) (F : List Fact) (ts : List Tok) (e a : Int), factsP en n F ts = .inr (e, a) → e ≠ 0
  | 0, F, ts, e, a, h => nomatch h
  | n + 1, F, ts, e, a, h => by
    simp only [factsP] at h
    split at h
    · cases h
    · cases hf : factP en F ts with
      | bad e2 a2 => rw [hf] at h; cases h; exact factP_ne _ _ _ _ _ hf
      | ok f r => rw [hf] at h; exact factsP_ne n _ _ _ _ h
theorem factsP_le {en : Int} : ∀ (n : Nat) (F : List Fact) (ts : List Tok) (e a : Int), AtLe en ts → factsP en n F ts = .inr (e, a) → a ≤ en
  | 0, F, ts, e, a, hl, h => nomatch h
  | n + 1, F, ts, e, a, hl, h => by
    simp only [factsP] at h
    split at h
    · cases h
    · cases hf : factP en F ts with
      | bad e2 a2 => rw [hf] at h; cases h; exact factP_le _ _ _ _ _ hl hf
      | ok f r => rw [hf] at h; exact factsP_le n _ _ _ _ (hl.suf (factP_ends _ _ _ _ _ hf)) h
theorem parseD_ne {t : Tx} {e a : Int} (h : parseD t = .inr (e, a)) : e ≠ 0 := by
  unfold parseD at h
  cases hl : lex t with
  | bad e2 a2 =>
    rw [hl] at h
    cases h
    have := lex_ne hl
    omega
  | ok ts => rw [hl] at h; exact factsP_ne _ _ _ _ _ h
theorem parseD_at {t : Tx} {e a : Int} (h : parseD t = .inr (e, a)) : a ≤ t.length := by
  unfold parseD at h
  cases hl : lex t with
  | bad e2 a2 => rw [hl] at h; cases h; exact lex_at.2 _ _ hl
  | ok ts => rw [hl] at h; exact factsP_le _ _ _ _ _ (lex_at.1 ts hl) h
end Go.Fac
