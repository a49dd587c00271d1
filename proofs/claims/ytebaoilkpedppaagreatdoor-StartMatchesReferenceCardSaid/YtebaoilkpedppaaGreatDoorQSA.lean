/-
  Conditions of commencement, in plain Lean: no program in sight.
-/
import Derived.Test.YtebaoilkpedppaaGreatDoorProg
import Derived.Test.YtebaoilkpedppaaGreatDoorQLX
set_option linter.unusedVariables false
set_option linter.unusedSimpArgs false
set_option linter.unnecessarySimpa false
set_option maxRecDepth 10000
namespace Go.Sta
abbrev Tx := List UInt8
inductive Sn
  | node (op : Int) (name : List UInt8) (day : Int) (kids : List Sn)
namespace Sn
def op : Sn → Int | .node o _ _ _ => o
def name : Sn → List UInt8 | .node _ s _ _ => s
def day : Sn → Int | .node _ _ d _ => d
def kids : Sn → List Sn | .node _ _ _ ks => ks
theorem size_kid {f k : Sn} (h : k ∈ f.kids) : SizeOf.sizeOf k < SizeOf.sizeOf f := by
  cases f with
  | node o s d ks =>
    have := List.sizeOf_lt_of_mem (show k ∈ ks from h)
    simp
    omega
theorem ind {Q : Sn → Prop} (h : ∀ f, (∀ k ∈ f.kids, Q k) → Q f) (f : Sn) : Q f := h f fun k hk => ind h k
termination_by f
decreasing_by exact size_kid hk
end Sn
mutual
def cnt : Sn → Nat
  | .node _ _ _ ks => 1 + cntL ks
def cntL : List Sn → Nat
  | [] => 0
  | k :: ks => cnt k + cntL ks
end
mutual
def dep : Sn → Nat
  | .node _ _ _ ks => depL ks + 1
def depL : List Sn → Nat
  | [] => 0
  | k :: ks => max (dep k) (depL ks)
end
theorem cnt_eq (f : Sn) : cnt f = 1 + cntL f.kids := by cases f; simp [cnt, Sn.kids]
theorem dep_eq (f : Sn) : dep f = depL f.kids + 1 := by cases f; simp [dep, Sn.kids]
theorem cntL_take_succ {l : List Sn} {k : Nat} (hk : k < l.length) : cntL (l.take (k + 1)) = cntL (l.take k) + cnt l[k] := by
  induction l generalizing k with
  | nil => simp at hk
  | cons a l ih =>
    cases k with
    | zero => simp [cntL]
    | succ k =>
      simp only [List.take_succ_cons, cntL, List.getElem_cons_succ]
      rw [ih (by simpa using hk)]; omega
theorem cnt_le_of_mem {k : Sn} : ∀ {l : List Sn}, k ∈ l → cnt k ≤ cntL l
  | a :: l, h => by
    simp only [cntL]
    rcases List.mem_cons.1 h with rfl | h
    · omega
    · have := cnt_le_of_mem h; omega
theorem dep_le_of_mem {k : Sn} : ∀ {l : List Sn}, k ∈ l → dep k ≤ depL l
  | a :: l, h => by
    simp only [depL]
    rcases List.mem_cons.1 h with rfl | h
    · omega
    · have := dep_le_of_mem h; omega
theorem depL_le {l : List Sn} {d : Nat} (h : ∀ k ∈ l, dep k ≤ d) : depL l ≤ d := by
  induction l with
  | nil => simp [depL]
  | cons a l ih =>
    simp only [depL]
    have := h a List.mem_cons_self
    have := ih fun k hk => h k (List.mem_cons_of_mem _ hk)
    omega
theorem len_le_cntL (l : List Sn) : l.length ≤ cntL l := by
  induction l with
  | nil => simp [cntL]
  | cons a l ih =>
    have := cnt_eq a
    simp only [cntL, List.length_cons]; omega

/-! ### Names and nodes -/
def isLet (c : UInt8) : Bool := (97 ≤ c && c ≤ 122) || (65 ≤ c && c ≤ 90)
def isDig (c : UInt8) : Bool := (48 ≤ c && c ≤ 57) || c == 95
def nameB : Tx → Bool
  | [] => false
  | c :: l => isLet c && l.all (fun c => isLet c || isDig c) && decide (l.length + 1 ≤ 24)
def named (op : Int) : Bool := decide (4 ≤ op ∧ op ≤ 7)
def many (op : Int) : Bool := decide (op = 8 ∨ op = 9)
def nodeB (s : Sn) : Bool := decide (1 ≤ s.op ∧ s.op ≤ 9) && (if named s.op then nameB s.name else decide (s.name = [])) && decide (s.day = 0 ∨ (s.op = 3 ∧ 0 < s.day ∧ s.day ≤ 1000000)) && (if many s.op then decide (2 ≤ s.kids.length) else decide (s.kids = []))
mutual
def okB : Sn → Bool
  | .node o s d ks => nodeB (.node o s d ks) && okL ks
def okL : List Sn → Bool
  | [] => true
  | k :: ks => okB k && okL ks
end
theorem okB_eq (s : Sn) : okB s = (nodeB s && okL s.kids) := by cases s; simp [okB, Sn.kids]
theorem okL_all (l : List Sn) : okL l = l.all okB := by
  induction l with
  | nil => rfl
  | cons a l ih => simp only [okL, List.all_cons, ih]
def Proper (s : Sn) (d : Nat) (left : Int) : Prop := (cnt s : Int) ≤ left ∧ dep s ≤ d ∧ okB s = true
def Valid (s : Sn) : Prop := Proper s 20 200
instance (s : Sn) (d : Nat) (left : Int) : Decidable (Proper s d left) := by unfold Proper; exact inferInstance
instance (s : Sn) : Decidable (Valid s) := by unfold Valid; exact inferInstance
def validB (s : Sn) : Bool := decide (Valid s)

/-! ### Names of provisions -/
def addT (l : List Tx) (t : Tx) : List Tx := if t ∈ l then l else l ++ [t]
mutual
def nms : Sn → List Tx → List Tx
  | .node o s _ ks, acc => nmsL ks (if o = 6 ∨ o = 7 then addT acc s else acc)
def nmsL : List Sn → List Tx → List Tx
  | [], acc => acc
  | k :: ks, acc => nmsL ks (nms k acc)
end
theorem nms_eq (s : Sn) (acc : List Tx) : nms s acc = nmsL s.kids (if s.op = 6 ∨ s.op = 7 then addT acc s.name else acc) := by
  cases s
  simp only [nms]
  rfl
def names (s : Sn) : List Tx := if validB s then nms s [] else []
theorem nmsL_take_succ (l : List Sn) (acc : List Tx) {k : Nat} (hk : k < l.length) : nmsL (l.take (k + 1)) acc = nms l[k] (nmsL (l.take k) acc) := by
  induction l generalizing acc k with
  | nil => simp at hk
  | cons a l ih =>
    cases k with
    | zero => simp [nmsL]
    | succ k =>
      simp only [List.take_succ_cons, nmsL, List.getElem_cons_succ]
      exact ih _ (by simpa using hk)

/-! ### Holding -/
structure Hap where
  event : Bool
  name : Tx
  day : Int
  known : Int
structure Stu where
  id : Tx
  begin_ : Int
  end_ : Int
  again : Int
structure Env where
  day : Int
  known : Int
  h : List Hap
  l : List Stu
def stuOf (l : List Stu) (id : Tx) : Option Stu := l.find? fun x => decide (x.id = id)
def reach (day : Int) : Option Int → Bool
  | none => false
  | some n => decide (0 ≤ n ∧ n ≤ day)
def hapB (E : Env) (event : Bool) (name : Tx) : Bool := E.h.any fun x => decide (x.event = event ∧ x.name = name ∧ x.day ≤ E.day ∧ x.known ≤ E.known)
mutual
def hol (E : Env) : Sn → Bool
  | .node o s d ks => if o = 1 then true else if o = 3 then decide (d ≤ E.day) else if o = 4 ∨ o = 5 then hapB E (decide (o = 5)) s else if o = 6 then reach E.day ((stuOf E.l s).map (·.begin_)) else if o = 7 then reach E.day ((stuOf E.l s).map (·.end_)) else if o = 8 then holAll E ks else if o = 9 then holAny E ks else false
def holAll (E : Env) : List Sn → Bool
  | [] => true
  | k :: ks => hol E k && holAll E ks
def holAny (E : Env) : List Sn → Bool
  | [] => false
  | k :: ks => hol E k || holAny E ks
end
theorem holAll_eq (E : Env) (l : List Sn) : holAll E l = l.all (hol E) := by
  induction l with
  | nil => rfl
  | cons a l ih => simp only [holAll, List.all_cons, ih]
theorem holAny_eq (E : Env) (l : List Sn) : holAny E l = l.any (hol E) := by
  induction l with
  | nil => rfl
  | cons a l ih => simp only [holAny, List.any_cons, ih]
theorem hol_eq (E : Env) (f : Sn) : hol E f = if f.op = 1 then true else if f.op = 3 then decide (f.day ≤ E.day) else if f.op = 4 ∨ f.op = 5 then hapB E (decide (f.op = 5)) f.name else if f.op = 6 then reach E.day ((stuOf E.l f.name).map (·.begin_)) else if f.op = 7 then reach E.day ((stuOf E.l f.name).map (·.end_)) else if f.op = 8 then f.kids.all (hol E) else if f.op = 9 then f.kids.any (hol E) else false := by
  cases f
  simp only [hol, holAll_eq, holAny_eq]
  rfl
def holds (E : Env) (s : Sn) : Bool := validB s && hol E s
end Go.Sta

set_option linter.unusedVariables false
set_option linter.unusedSimpArgs false
set_option linter.unnecessarySimpa false
set_option maxRecDepth 10000
namespace Go.Sta
open Go.Lexs (Tok lex)
inductive Rd (α : Type) where
  | ok (x : α) (r : List Tok)
  | bad (e at_ : Int)
def isT (w : Tx) : List Tok → Bool
  | [] => false
  | t :: _ => decide (t.kind ≠ 2) && decide (t.text = w)
def failE : List Tok → Int
  | [] => 6
  | _ :: _ => 5
def failA (en : Int) : List Tok → Int
  | [] => en
  | t :: _ => t.pos
def failR {α : Type} (en : Int) (ts : List Tok) : Rd α := .bad (failE ts) (failA en ts)
def kAnd : Tx := [97, 110, 100]
def kOr : Tx := [111, 114]
def kOpen : Tx := [40]
def kShut : Tx := [41]
def wordL : List (Tx × Int) := [([97, 108, 119, 97, 121, 115], 1), ([110, 101, 118, 101, 114], 2), ([100, 97, 121], 3), ([111, 114, 100, 101, 114], 4), ([101, 118, 101, 110, 116], 5), ([98, 101, 103, 117, 110], 6), ([111, 118, 101, 114], 7)]
def takeT (en : Int) (kind : Nat) : List Tok → Rd Tok
  | [] => failR en []
  | t :: r => if t.kind = kind then .ok t r else failR en (t :: r)
def sevTail (w : Tx) (read : List Tok → Rd Sn) : Nat → List Sn → List Tok → Rd (List Sn)
  | 0, acc, ts => .ok acc ts
  | n + 1, acc, ts => if isT w ts then (match read ts.tail with | .ok x r => sevTail w read n (acc ++ [x]) r | .bad e a => .bad e a) else .ok acc ts
def joinS (op : Int) : List Sn → Sn
  | [x] => x
  | l => .node op [] 0 l
def sev (w : Tx) (op : Int) (read : List Tok → Rd Sn) (ts : List Tok) : Rd Sn :=
  match read ts with
  | .bad e a => .bad e a
  | .ok x r => match sevTail w read r.length [x] r with
    | .bad e a => .bad e a
    | .ok l r' => .ok (joinS op l) r'
def wordR (en : Int) (op : Int) (ts : List Tok) : Rd Sn :=
  if op = 3 then (match takeT en 2 ts with | .bad e a => .bad e a | .ok t r => if 1000000 < t.num then .bad 10 t.pos else .ok (.node 3 [] t.num []) r)
  else if named op then (match takeT en 1 ts with | .bad e a => .bad e a | .ok t r => .ok (.node op t.text 0 []) r)
  else .ok (.node op [] 0 []) ts
def pOne (en : Int) : Nat → List Tok → Rd Sn
  | 0, ts => failR en ts
  | f + 1, ts => if isT kOpen ts then
      (match sev kOr 9 (sev kAnd 8 (pOne en f)) ts.tail with
      | .bad e a => .bad e a
      | .ok s r => if isT kShut r then .ok s r.tail else failR en r)
    else match wordL.find? fun p => isT p.1 ts with
      | none => failR en ts
      | some p => wordR en p.2 ts.tail
def pAll (en : Int) (f : Nat) : List Tok → Rd Sn := sev kAnd 8 (pOne en f)
def pStart (en : Int) (f : Nat) : List Tok → Rd Sn := sev kOr 9 (pAll en f)
def parseT (en : Int) (ts : List Tok) : Sn ⊕ (Int × Int) :=
  match pStart en (ts.length + 1) ts with
  | .bad e a => .inr (e, a)
  | .ok s r => if r = [] then (if validB s then .inl s else .inr (2, 0)) else .inr (failE r, failA en r)
def parse (text : Tx) : Sn ⊕ (Int × Int) :=
  match lex text with
  | .bad e a => .inr (e, a)
  | .ok ts => parseT text.length ts
/-! ### What is left is never more -/
theorem isT_ne {w : Tx} {ts : List Tok} (h : isT w ts = true) : ∃ t r, ts = t :: r := by
  cases ts with
  | nil => simp [isT] at h
  | cons t r => exact ⟨t, r, rfl⟩
def Ends (read : List Tok → Rd Sn) : Prop := ∀ ts x r, read ts = .ok x r → r <:+ ts
theorem suf_tail {ts r : List Tok} (h : r <:+ ts.tail) : r <:+ ts := h.trans (List.tail_suffix _)
theorem sevTail_ends {w : Tx} {read : List Tok → Rd Sn} (h : Ends read) : ∀ (n : Nat) (acc : List Sn) (ts : List Tok) (l : List Sn) (r : List Tok), sevTail w read n acc ts = .ok l r → r <:+ ts
  | 0, acc, ts, l, r, e => by cases e; exact List.suffix_rfl
  | n + 1, acc, ts, l, r, e => by
    simp only [sevTail] at e
    split at e
    · cases hr : read ts.tail with
      | bad e2 a2 => rw [hr] at e; cases e
      | ok x r2 =>
        rw [hr] at e
        exact (sevTail_ends h n _ _ _ _ e).trans (suf_tail (h _ _ _ hr))
    · cases e; exact List.suffix_rfl
theorem sev_ends {w : Tx} {op : Int} {read : List Tok → Rd Sn} (h : Ends read) : Ends (sev w op read) := by
  intro ts x r e
  unfold sev at e
  cases hr : read ts with
  | bad e2 a2 => rw [hr] at e; cases e
  | ok y r1 =>
    rw [hr] at e
    simp only at e
    cases ht : sevTail w read r1.length [y] r1 with
    | bad e2 a2 => rw [ht] at e; cases e
    | ok l r2 =>
      rw [ht] at e
      cases e
      exact (sevTail_ends h _ _ _ _ _ ht).trans (h _ _ _ hr)
theorem takeT_ends {en : Int} {k : Nat} {ts : List Tok} {t : Tok} {r : List Tok} (h : takeT en k ts = .ok t r) : ts = t :: r ∧ t.kind = k := by
  cases ts with
  | nil => cases h
  | cons u s =>
    simp only [takeT] at h
    split at h
    · cases h; exact ⟨rfl, by assumption⟩
    · cases h
theorem wordR_ends {en : Int} (op : Int) : Ends (wordR en op) := by
  intro ts x r e
  unfold wordR at e
  split at e
  · cases ht : takeT en 2 ts with
    | bad e2 a2 => rw [ht] at e; cases e
    | ok t r2 =>
      rw [ht] at e
      simp only at e
      obtain ⟨rfl, -⟩ := takeT_ends ht
      split at e
      · cases e
      · cases e; exact List.suffix_cons _ _
  · split at e
    · cases ht : takeT en 1 ts with
      | bad e2 a2 => rw [ht] at e; cases e
      | ok t r2 =>
        rw [ht] at e
        obtain ⟨rfl, -⟩ := takeT_ends ht
        cases e
        exact List.suffix_cons _ _
    · cases e; exact List.suffix_rfl
theorem pOne_ends (en : Int) : ∀ f, Ends (pOne en f)
  | 0 => by intro ts x r e; cases e
  | f + 1 => by
    intro ts x r e
    simp only [pOne] at e
    split at e
    · cases hs : sev kOr 9 (sev kAnd 8 (pOne en f)) ts.tail with
      | bad e2 a2 => rw [hs] at e; cases e
      | ok s r2 =>
        rw [hs] at e
        simp only at e
        have h1 := sev_ends (sev_ends (pOne_ends en f)) _ _ _ hs
        split at e
        · cases e
          exact suf_tail ((List.tail_suffix _).trans h1)
        · cases e
    · cases hf : wordL.find? fun p => isT p.1 ts with
      | none => rw [hf] at e; cases e
      | some p =>
        rw [hf] at e
        exact suf_tail (wordR_ends p.2 _ _ _ e)
theorem pAll_ends (en : Int) (f : Nat) : Ends (pAll en f) := sev_ends (pOne_ends en f)
end Go.Sta
