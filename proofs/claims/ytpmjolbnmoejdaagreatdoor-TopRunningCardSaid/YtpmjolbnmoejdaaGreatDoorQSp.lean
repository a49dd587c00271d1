/-
  Limits that run, matters, migrations: plain Lean, no program in sight.
-/
import Derived.Test.YtpmjolbnmoejdaaGreatDoorQLx
set_option linter.unusedVariables false
set_option linter.unusedSimpArgs false
set_option linter.unnecessarySimpa false
set_option maxRecDepth 10000
namespace Go.Top
open Go.Fin (Nm)
abbrev Tx := List UInt8
/-! ### The calendar -/
def isD (z : Int) : Bool := decide (0 ≤ z ∧ z ≤ 1000000)
def leapL (y : Nat) : Bool := decide ((y % 4 = 0 ∧ y % 100 ≠ 0) ∨ y % 400 = 0)
def daysL (y : Nat) : Nat := if leapL y then 366 else 365
theorem daysL_ge (y : Nat) : 365 ≤ daysL y := by unfold daysL; split <;> omega
theorem daysL_le (y : Nat) : daysL y ≤ 366 := by unfold daysL; split <;> omega
def monthsL (y : Nat) : List Nat := [31, if leapL y then 29 else 28, 31, 30, 31, 30, 31, 31, 30, 31, 30, 31]
def beginL (y x : Nat) : Nat :=
  if h : x < y then (if x % 400 = 0 ∧ x + 400 ≤ y then 146097 + beginL y (x + 400) else daysL x + beginL y (x + 1)) else 0
termination_by y - x
def dayL (y m d : Nat) : Option Nat :=
  if 1 ≤ d ∧ d ≤ (monthsL y).getD (m - 1) 0 then
    (let n := beginL y 1600 + (d - 1) + ((monthsL y).take (m - 1)).sum
     if n ≤ 1000000 then some n else none)
  else none
def yearL (y d : Nat) : Nat × Nat :=
  if h : daysL y ≤ d then yearL (y + 1) (d - daysL y) else (y, d)
termination_by d
decreasing_by have := daysL_ge y; omega
def monL : List Nat → Nat → Nat × Nat
  | [], d => (0, d)
  | l :: ls, d => if l ≤ d then ((monL ls (d - l)).1 + 1, (monL ls (d - l)).2) else (0, d)
def dateL (d : Nat) : Nat × Nat × Nat :=
  let p := yearL (1600 + d / 146097 * 400) (d % 146097)
  (p.1, monL (monthsL p.1) p.2)
def laterL (d n : Nat) : Option Nat :=
  let p := dateL d
  let k := n + 12 * p.1 + p.2.1
  if k / 12 > 9999 then none else dayL (k / 12) (k % 12 + 1) (min (p.2.2 + 1) ((monthsL (k / 12)).getD (k % 12) 0))
def openD (d : Nat) : Bool := decide (d ≤ 1000000 ∧ (d + 5) % 7 < 5)
def fromL (d : Nat) : Nat := if d > 1000000 ∨ (d + 5) % 7 < 5 then d else if (d + 5) % 7 = 6 ∨ d + 1 > 1000000 then d + 1 else d + 2
theorem fromL_ge (d : Nat) : d ≤ fromL d := by unfold fromL; split <;> (try split) <;> omega
theorem fromL_le (d : Nat) : fromL d ≤ d + 2 := by unfold fromL; split <;> (try split) <;> omega
theorem fromL_step {d : Nat} (h : d ≤ 1000000) (h2 : ¬ (d + 5) % 7 < 5) : fromL (d + 1) = fromL d := by
  unfold fromL
  repeat' split
  all_goals omega
theorem fromL_stop {d : Nat} (h : d > 1000000 ∨ (d + 5) % 7 < 5) : fromL d = d := by unfold fromL; rw [if_pos h]
def workL : Nat → Nat → Nat
  | 0, e => e
  | k + 1, e => if e ≤ 1000000 then workL k (fromL (e + 1)) else e
def endL (d n : Nat) (u : Int) : Option Nat :=
  if u = 1 then some (d + n) else if u = 2 then some (d + 7 * n) else if u = 3 then laterL d n else if u = 4 then laterL d (12 * n) else some (workL n d)
def addL (d n : Nat) (u : Int) : Option Nat :=
  match endL d n u with
  | none => none
  | some e => if e ≤ 1000000 ∧ fromL e ≤ 1000000 then some (fromL e) else none
theorem addL_le {d n : Nat} {u : Int} {e : Nat} (h : addL d n u = some e) : e ≤ 1000000 := by
  unfold addL at h
  split at h
  · cases h
  · split at h
    · rename_i h1; cases h; exact h1.2
    · cases h
theorem addL_day {d n e : Nat} (h : addL d n 1 = some e) : d + n ≤ e := by
  unfold addL endL at h
  simp only [if_true] at h
  split at h
  · cases h; exact fromL_ge _
  · cases h
/-! ### Limits -/
structure Stop where
  a : Int
  b : Int
  deriving DecidableEq
structure Lim where
  id : Tx
  n : Int
  u : Int
  f : Int
  st : List Stop
  deriving DecidableEq
def stopB (s : Stop) : Bool := decide (0 ≤ s.a ∧ s.a ≤ s.b ∧ s.b ≤ 1000000)
def termB (n u : Int) : Bool := decide (1 ≤ u ∧ u ≤ 5 ∧ 0 ≤ n ∧ n ≤ 1000000)
def properB (l : Lim) : Bool := Nm l.id && isD l.f && termB l.n l.u && decide (l.st.length ≤ 60) && l.st.all stopB
def effS (f : Int) (st : List Stop) : List Stop := (st.map fun s => ({ a := max s.a (f + 1), b := s.b } : Stop)).filter fun s => decide (s.a < s.b)
def joinS : List Stop → Stop → List Stop
  | [], s => [s]
  | k :: r, s => if s.a ≤ k.b then { a := k.a, b := max k.b s.b } :: r else s :: k :: r
def lessS (x y : Stop) : Bool := decide (x.a ≤ y.a)
def clockL (f : Int) (st : List Stop) : List Stop := (((effS f st).mergeSort lessS).foldl joinS []).reverse
theorem joinS_comm (acc : List Stop) {x y : Stop} (h : x.a = y.a) (hx : x.a < x.b) (hy : y.a < y.b) : joinS (joinS acc x) y = joinS (joinS acc y) x := by
  obtain ⟨xa, xb⟩ := x
  obtain ⟨ya, yb⟩ := y
  simp only at h hx hy
  subst h
  cases acc with
  | nil =>
    simp only [joinS]
    rw [if_pos (by omega), if_pos (by omega)]
    congr 2
    omega
  | cons k r =>
    simp only [joinS]
    by_cases hk : xa ≤ k.b
    · rw [if_pos hk, if_pos hk]
      simp only [joinS]
      rw [if_pos (by omega), if_pos (by omega)]
      congr 2
      omega
    · rw [if_neg hk, if_neg hk]
      simp only [joinS]
      rw [if_pos (by omega), if_pos (by omega)]
      congr 2
      omega
def sortedS : List Stop → Prop := List.Pairwise fun x y => x.a ≤ y.a
theorem fold_swap {x : Stop} (hx : x.a < x.b) : ∀ (p q acc : List Stop), (∀ y ∈ p, y.a = x.a ∧ y.a < y.b) → (p ++ x :: q).foldl joinS acc = (p ++ q).foldl joinS (joinS acc x)
  | [], q, acc, _ => rfl
  | y :: p, q, acc, h => by
    have h1 := h y List.mem_cons_self
    simp only [List.cons_append, List.foldl_cons]
    rw [fold_swap hx p q _ fun z hz => h z (List.mem_cons_of_mem _ hz), joinS_comm acc h1.1 h1.2 hx]
theorem fold_perm : ∀ (l1 l2 acc : List Stop), l1.Perm l2 → sortedS l1 → sortedS l2 → (∀ x ∈ l1, x.a < x.b) → l1.foldl joinS acc = l2.foldl joinS acc
  | [], l2, acc, hp, _, _, _ => by rw [List.nil_perm.1 hp]
  | x :: t, l2, acc, hp, h1, h2, hx => by
    have hm : x ∈ l2 := hp.mem_iff.1 List.mem_cons_self
    obtain ⟨p, q, rfl⟩ := List.append_of_mem hm
    have h1' := List.pairwise_cons.1 h1
    have h2' := List.pairwise_append.1 h2
    have hpq : t.Perm (p ++ q) := (List.perm_cons x).1 (hp.trans List.perm_middle)
    rw [fold_swap (hx x List.mem_cons_self) p q acc fun y hy => ?_]
    · rw [List.foldl_cons]
      refine fold_perm t (p ++ q) _ hpq h1'.2 ?_ fun y hy => hx y (List.mem_cons_of_mem _ hy)
      refine List.pairwise_append.2 ⟨h2'.1, (List.pairwise_cons.1 h2'.2.1).2, fun a ha b hb => h2'.2.2 a ha b (List.mem_cons_of_mem _ hb)⟩
    · have hyt : y ∈ t := hpq.mem_iff.2 (List.mem_append_left _ hy)
      have := h1'.1 y hyt
      have := h2'.2.2 y hy x List.mem_cons_self
      exact ⟨by omega, hx y (List.mem_cons_of_mem _ hyt)⟩
theorem effS_lt {f : Int} {st : List Stop} {x : Stop} (h : x ∈ effS f st) : x.a < x.b := by
  unfold effS at h
  simpa using (List.mem_filter.1 h).2
theorem clockL_of {f : Int} {st p : List Stop} (hp : p.Perm (effS f st)) (hs : sortedS p) : (p.foldl joinS []).reverse = clockL f st := by
  unfold clockL
  rw [fold_perm p _ [] (hp.trans (List.mergeSort_perm _ _).symm) hs ?_ fun x hx => effS_lt (hp.mem_iff.1 hx)]
  have := List.pairwise_mergeSort (le := lessS) (fun a b c h1 h2 => by simp only [lessS, decide_eq_true_eq] at *; omega) (fun a b => by simp only [lessS, Bool.or_eq_true, decide_eq_true_eq]; omega) (effS f st)
  exact this.imp fun h => by simpa [lessS] using h
def stopsOK (f : Int) (l : List Stop) : Prop := ∀ s ∈ l, f < s.a ∧ s.a < s.b ∧ s.b ≤ 1000000
theorem joinS_ok {f : Int} {acc : List Stop} {s : Stop} (h : stopsOK f acc) (hs : f < s.a ∧ s.a < s.b ∧ s.b ≤ 1000000) : stopsOK f (joinS acc s) := by
  cases acc with
  | nil => intro x hx; rw [List.mem_singleton.1 hx]; exact hs
  | cons k r =>
    have hk := h k List.mem_cons_self
    simp only [joinS]
    split
    · intro x hx
      rcases List.mem_cons.1 hx with rfl | hx
      · simp only; omega
      · exact h x (List.mem_cons_of_mem _ hx)
    · intro x hx
      rcases List.mem_cons.1 hx with rfl | hx
      · exact hs
      · exact h x hx
theorem fold_ok {f : Int} : ∀ (l acc : List Stop), stopsOK f acc → stopsOK f l → stopsOK f (l.foldl joinS acc)
  | [], acc, h, _ => h
  | s :: l, acc, h, hl => fold_ok l _ (joinS_ok h (hl s List.mem_cons_self)) fun x hx => hl x (List.mem_cons_of_mem _ hx)
theorem effS_ok {f : Int} {st : List Stop} (h : st.all stopB = true) : stopsOK f (effS f st) := by
  intro x hx
  unfold effS at hx
  obtain ⟨h1, h2⟩ := List.mem_filter.1 hx
  obtain ⟨s, hs, rfl⟩ := List.mem_map.1 h1
  have := List.all_eq_true.1 h s hs
  simp only [stopB, decide_eq_true_eq] at this h2
  simp only
  omega
theorem clockL_ok {f : Int} {st : List Stop} (h : st.all stopB = true) : stopsOK f (clockL f st) := by
  have h1 := fold_ok (f := f) ((effS f st).mergeSort lessS) [] (fun _ h => nomatch h) fun x hx => effS_ok h x ((List.mergeSort_perm _ _).mem_iff.1 hx)
  intro x hx
  exact h1 x (List.mem_reverse.1 hx)
theorem joinS_len (acc : List Stop) (s : Stop) : (joinS acc s).length ≤ acc.length + 1 := by
  cases acc with
  | nil => simp [joinS]
  | cons k r => simp only [joinS]; split <;> simp
theorem fold_len : ∀ (l acc : List Stop), (l.foldl joinS acc).length ≤ acc.length + l.length
  | [], acc => by simp
  | s :: l, acc => by
    have h1 := fold_len l (joinS acc s)
    have h2 := joinS_len acc s
    simp only [List.foldl_cons, List.length_cons]
    omega
theorem clockL_len (f : Int) (st : List Stop) : (clockL f st).length ≤ st.length := by
  unfold clockL
  rw [List.length_reverse]
  have h1 := fold_len ((effS f st).mergeSort lessS) []
  have h2 : ((effS f st).mergeSort lessS).length ≤ st.length := by
    rw [List.length_mergeSort]
    refine Nat.le_trans (List.length_filter_le _ _) (by simp)
  simp only [List.length_nil] at h1
  omega
def pausedL (c : List Stop) (d : Int) : Bool := c.any fun s => decide (s.a ≤ d ∧ d < s.b)
def afterL (n : Int) : List Stop → Int → Int
  | [], d => d
  | s :: c, d => afterL n c (if s.a ≤ d ∧ 0 < n then d + (s.b - s.a) else d)
theorem afterL_ge {f n : Int} : ∀ (c : List Stop) (d : Int), stopsOK f c → d ≤ afterL n c d
  | [], d, _ => Int.le_refl _
  | s :: c, d, h => by
    have h1 := h s List.mem_cons_self
    have h2 := afterL_ge (n := n) c (if s.a ≤ d ∧ 0 < n then d + (s.b - s.a) else d) fun x hx => h x (List.mem_cons_of_mem _ hx)
    simp only [afterL]
    generalize afterL n c _ = z at *
    split at h2 <;> omega
theorem afterL_le {f n : Int} (hf : 0 ≤ f) : ∀ (c : List Stop) (d : Int), stopsOK f c → afterL n c d ≤ d + 1000000 * c.length
  | [], d, _ => by simp [afterL]
  | s :: c, d, h => by
    have h1 := h s List.mem_cons_self
    have h2 := afterL_le (n := n) hf c (if s.a ≤ d ∧ 0 < n then d + (s.b - s.a) else d) fun x hx => h x (List.mem_cons_of_mem _ hx)
    simp only [afterL]
    generalize afterL n c _ = z at *
    rw [List.length_cons]
    push_cast
    split at h2 <;> omega
def openL (c : List Stop) (d : Nat) : Option Nat :=
  if h : d ≤ 1000000 then (if !pausedL c d && openD d then some d else openL c (d + 1)) else none
termination_by 1000001 - d
theorem openL_ge (c : List Stop) : ∀ (k d e : Nat), 1000001 - d ≤ k → openL c d = some e → d ≤ e ∧ e ≤ 1000000 := by
  intro k
  induction k with
  | zero => intro d e hk h; rw [openL, dif_neg (by omega)] at h; cases h
  | succ k ih =>
    intro d e hk h
    rw [openL] at h
    split at h
    · split at h
      · cases h; omega
      · have := ih (d + 1) e (by omega) h; omega
    · cases h
def dueL (l : Lim) : Option Nat :=
  if properB l then
    match addL l.f.toNat l.n.toNat l.u with
    | none => none
    | some e => openL (clockL l.f l.st) (afterL (e - l.f) (clockL l.f l.st) (l.f + (e - l.f))).toNat
  else none
def changeL (l : Lim) (day n u least : Int) : Option Lim :=
  if properB l && isD day && termB n u && decide (0 ≤ least ∧ least ≤ 1000000) then
    match dueL l with
    | none => none
    | some e =>
      if (e : Int) < day then some l else
      match dueL { l with n := n, u := u } with
      | none => none
      | some e2 => if (e2 : Int) < day + least then (match dueL { l with f := day, n := least, u := 1 } with | none => none | some _ => some { l with f := day, n := least, u := 1 }) else some { l with n := n, u := u }
  else none
theorem changeL_out {l l2 : Lim} {day n u least : Int} (h : changeL l day n u least = some l2) : ∃ e : Nat, dueL l = some e ∧ (if (e : Int) < day then l2 = l else l2.id = l.id ∧ l2.st = l.st ∧ ∃ e2 : Nat, dueL l2 = some e2 ∧ day + least ≤ e2) := by
  unfold changeL at h
  split at h
  · rename_i hc
    simp only [Bool.and_eq_true, decide_eq_true_eq] at hc
    obtain ⟨⟨⟨hp, hd⟩, ht⟩, hl⟩ := hc
    split at h
    · cases h
    · rename_i e he
      refine ⟨e, he, ?_⟩
      split
      · rename_i hlt
        rw [if_pos hlt] at h
        cases h
        rfl
      · rename_i hlt
        rw [if_neg hlt] at h
        split at h
        · cases h
        · rename_i e2 he2
          split at h
          · split at h
            · cases h
            · rename_i e3 he3
              cases h
              refine ⟨rfl, rfl, e3, he3, ?_⟩
              -- a term of days
              have hp3 : properB { l with f := day, n := least, u := 1 } = true := by
                unfold dueL at he3
                split at he3
                · rename_i h; exact h
                · cases he3
              unfold dueL at he3
              rw [if_pos hp3] at he3
              split at he3
              · cases he3
              · rename_i e4 he4
                simp only at he3 he4
                have h1 := addL_day he4
                have h2 := openL_ge _ _ _ _ (Nat.le_refl _) he3
                have hst : l.st.all stopB = true := by
                  unfold properB at hp
                  simp only [Bool.and_eq_true] at hp
                  exact hp.2
                have h3 := afterL_ge (n := (e4 : Int) - day) (clockL day l.st) (day + ((e4 : Int) - day)) (clockL_ok hst)
                simp only [isD, decide_eq_true_eq] at hd
                omega
          · cases h
            refine ⟨rfl, rfl, e2, he2, ?_⟩
            omega
  · cases h
end Go.Top

set_option linter.unusedVariables false
set_option linter.unusedSimpArgs false
set_option linter.unnecessarySimpa false
set_option maxRecDepth 10000
namespace Go.Top
open Go.Fin (Nm)
structure Right where
  name : Tx
  since : Int
  deriving DecidableEq
structure Mat where
  id : Tx
  opened : Int
  cas : List Int
  proc : Tx
  stage : Int
  moved : List Int
  rights : List Right
  limits : List Lim
  deriving DecidableEq
structure Pair where
  x : Tx
  y : Tx
  deriving DecidableEq
structure Mig where
  src : Tx
  dst : Tx
  stages : List Int
  rights : List Pair
  terms : List Lim
structure IPair where
  x : Int
  y : Int
  deriving DecidableEq
structure Proc where
  name : Tx
  stages : List Tx
  moves : List IPair
def diffB {α κ : Type} [DecidableEq κ] (key : α → κ) (good : α → Bool) (l : List α) : Bool := l.all good && decide (l.map key).Nodup && decide (l.length ≤ 60)
def moveB (n : Nat) (m : IPair) : Bool := decide (m.x ≠ m.y ∧ 0 ≤ min m.x m.y ∧ max m.x m.y < (n : Int))
def procB (p : Proc) : Bool := Nm p.name && decide (0 < p.stages.length) && diffB (fun s => s) Nm p.stages && diffB (fun m => m) (moveB p.stages.length) p.moves
def sortedI : List Int → Bool
  | a :: b :: r => decide (a ≤ b) && sortedI (b :: r)
  | _ => true
def caseB (c : List Int) : Bool := c.all fun n => decide (0 ≤ n ∧ n ≤ 1000000)
def movedB (o : Int) (l : List Int) : Bool := sortedI l && (decide (l = []) || (decide (o ≤ l.headD 0) && isD (l.getLastD 0)))
def rightB (o : Int) (r : Right) : Bool := Nm r.name && decide (o ≤ r.since) && isD r.since
def formB (m : Mat) : Bool :=
  Nm m.id && Nm m.proc && isD m.opened && decide (0 ≤ m.stage ∧ m.stage < 60) && caseB m.cas && decide (m.cas.length ≤ 60) && movedB m.opened m.moved && decide (m.moved.length ≤ 60) &&
  (diffB Right.name (rightB m.opened) m.rights && diffB Lim.id properB m.limits)
def termL (l : Lim) : Bool := properB l && decide (l.st = [])
def migB (g : Mig) : Bool :=
  Nm g.src && Nm g.dst && decide (g.stages ≠ []) && decide (g.stages.length ≤ 60 ∧ g.rights.length ≤ 60 ∧ g.terms.length ≤ 60) &&
  (g.stages.all fun s => decide (-1 ≤ s ∧ s < 60)) && (g.rights.all fun r => Nm r.x && Nm r.y) && g.terms.all termL &&
  decide (g.rights.map Pair.x).Nodup && decide (g.terms.map Lim.id).Nodup
def maxI : List Int → Int
  | [] => 0
  | [a] => a
  | a :: b :: r => max a (maxI (b :: r))
theorem maxI_lt {n : Int} : ∀ {l : List Int}, l ≠ [] → (maxI l < n ↔ ∀ x ∈ l, x < n)
  | [], h => absurd rfl h
  | [a], _ => by simp [maxI]
  | a :: b :: r, _ => by
    have ih := maxI_lt (n := n) (l := b :: r) (by simp)
    unfold maxI
    rw [List.forall_mem_cons, ← ih]
    omega
def validB (g : Mig) (p q : Proc) : Bool := migB g && procB p && procB q && decide (g.src = p.name ∧ g.dst = q.name ∧ g.stages.length = p.stages.length ∧ maxI g.stages < (q.stages.length : Int))
def find (l : List Pair) (n : Tx) : Option Tx := (l.reverse.find? fun r => decide (r.x = n)).map Pair.y
def renB (l : List Pair) (n : Tx) : Tx := (find l n).getD n
def laid : List Right → Right → List Right
  | [], r => [r]
  | q :: l, r => if q.name = r.name then { q with since := min q.since r.since } :: l else q :: laid l r
def carry (f : Tx → Tx) (l acc : List Right) : List Right := l.foldl (fun a r => laid a { r with name := f r.name }) acc
def firstT (ts : List Lim) (l : Lim) : Option Lim := ts.find? fun t => decide (t.id = l.id)
def step (ts : List Lim) (day : Int) (l : Lim) : Option Lim :=
  match firstT ts l with
  | none => some l
  | some t => changeL l day t.n t.u t.f
def steps (ts : List Lim) (day : Int) : List Lim → Option (List Lim)
  | [] => some []
  | l :: r => match step ts day l with
    | none => none
    | some l2 => match steps ts day r with
      | none => none
      | some r2 => some (l2 :: r2)
def readyB (m : Mat) (g : Mig) (p q : Proc) (day : Int) : Bool :=
  validB g p q && formB m && decide (m.proc = g.src ∧ m.stage < p.stages.length) && isD day && decide (0 ≤ g.stages.getD m.stage.toNat (-1)) && decide (m.opened ≤ day) && decide (m.moved = [] ∨ m.moved.getLastD 0 ≤ day)
def applyB (m : Mat) (g : Mig) (p q : Proc) (day : Int) : Option Mat :=
  if readyB m g p q day then
    match steps g.terms day m.limits with
    | none => none
    | some ls => some { m with proc := g.dst, stage := g.stages.getD m.stage.toNat (-1), rights := carry (renB g.rights) m.rights [], limits := ls }
  else none
def joinR (g h : Mig) : List Pair := (g.rights.map fun r => ({ x := r.x, y := renB h.rights r.y } : Pair)) ++ h.rights.filter fun r => (find g.rights r.x).isNone
def thenM (g h : Mig) : Mig := { src := g.src, dst := h.dst, stages := g.stages.map fun s => if 0 ≤ s then h.stages.getD s.toNat (-1) else s, rights := joinR g h, terms := g.terms ++ h.terms }
def thenB (g h : Mig) : Option Mig :=
  if migB g && migB h && decide (g.dst = h.src) && decide (maxI g.stages < (h.stages.length : Int)) then
    (if ((thenM g h).terms.map Lim.id).Nodup ∧ (thenM g h).rights.length ≤ 60 ∧ (thenM g h).terms.length ≤ 60 then some (thenM g h) else none)
  else none
def leastL (ts : List Lim) (l : Lim) : Int := ts.foldl (fun z t => if t.id = l.id then t.f else z) (-1)
def runsB (day : Int) (ts : List Lim) (was now : Lim) : Bool :=
  if leastL ts was < 0 ∨ (∃ e ∈ dueL was, (e : Int) < day) then decide (was = now)
  else decide (now.id = was.id) && (match dueL now with | none => false | some e => decide (day + leastL ts was ≤ e))
def runsAll (day : Int) (ts : List Lim) : List Lim → List Lim → Bool
  | [], [] => true
  | a :: l, b :: r => runsB day ts a b && runsAll day ts l r
  | _, _ => false
/-! ### Limits run on -/
theorem leastL_none {l : Lim} : ∀ (ts : List Lim) (z : Int), (∀ t ∈ ts, t.id ≠ l.id) → ts.foldl (fun z t => if t.id = l.id then t.f else z) z = z
  | [], z, _ => rfl
  | t :: ts, z, h => by
    rw [List.foldl_cons, if_neg (h t List.mem_cons_self)]
    exact leastL_none ts z fun x hx => h x (List.mem_cons_of_mem _ hx)
theorem leastL_some {l t : Lim} : ∀ (ts : List Lim) (z : Int), (ts.map Lim.id).Nodup → firstT ts l = some t → ts.foldl (fun z t => if t.id = l.id then t.f else z) z = t.f
  | [], z, _, h => nomatch h
  | s :: ts, z, hn, h => by
    rw [List.map_cons, List.nodup_cons] at hn
    unfold firstT at h
    rw [List.find?_cons] at h
    by_cases e : s.id = l.id
    · simp only [e, decide_true, Option.some.injEq] at h
      subst h
      rw [List.foldl_cons, if_pos e]
      exact leastL_none ts _ fun x hx e2 => hn.1 (by rw [e, ← e2]; exact List.mem_map_of_mem hx)
    · simp only [e, decide_false] at h
      rw [List.foldl_cons, if_neg e]
      exact leastL_some ts z hn.2 h
theorem firstT_mem {ts : List Lim} {l t : Lim} (h : firstT ts l = some t) : t ∈ ts ∧ t.id = l.id := ⟨List.mem_of_find?_eq_some h, by simpa using List.find?_some h⟩
theorem firstT_none {ts : List Lim} {l : Lim} (h : firstT ts l = none) : ∀ t ∈ ts, t.id ≠ l.id := fun t ht => by simpa using List.find?_eq_none.1 h t ht
theorem runsB_of {ts : List Lim} {day : Int} {l l2 : Lim} (hn : (ts.map Lim.id).Nodup) (ht : ts.all termL = true) (h : step ts day l = some l2) : runsB day ts l l2 = true := by
  unfold step at h
  split at h
  · rename_i hf
    cases h
    unfold runsB
    have hm : leastL ts l < 0 := by unfold leastL; rw [leastL_none ts _ (firstT_none hf)]; decide
    rw [if_pos (.inl hm)]
    simp
  · rename_i t hf
    have hl : leastL ts l = t.f := leastL_some ts _ hn hf
    have hp : 0 ≤ t.f := by
      have := List.all_eq_true.1 ht t (firstT_mem hf).1
      simp only [termL, properB, isD, Bool.and_eq_true, decide_eq_true_eq] at this
      omega
    obtain ⟨e, he, h2⟩ := changeL_out h
    unfold runsB
    rw [hl]
    by_cases hlt : (e : Int) < day
    · rw [if_pos hlt] at h2
      rw [if_pos (.inr ⟨e, he, hlt⟩), h2]
      simp
    · rw [if_neg hlt] at h2
      obtain ⟨h3, h4, e2, h5, h6⟩ := h2
      rw [if_neg, h5]
      · simp [h3, h6]
      · rintro (h | ⟨e', he', hl'⟩)
        · omega
        · rw [Option.mem_def, he] at he'
          cases he'
          exact hlt hl'
theorem runsAll_of {ts : List Lim} {day : Int} (hn : (ts.map Lim.id).Nodup) (ht : ts.all termL = true) : ∀ {l r : List Lim}, steps ts day l = some r → runsAll day ts l r = true
  | [], r, h => by cases h; rfl
  | a :: l, r, h => by
    unfold steps at h
    split at h
    · cases h
    · rename_i a2 ha
      split at h
      · cases h
      · rename_i r2 hr
        cases h
        unfold runsAll
        rw [runsB_of hn ht ha, runsAll_of hn ht hr]
        rfl
theorem step_id {ts : List Lim} {day : Int} {l l2 : Lim} (h : step ts day l = some l2) : l2.id = l.id := by
  unfold step at h
  split at h
  · cases h; rfl
  · obtain ⟨e, -, h2⟩ := changeL_out h
    split at h2
    · rw [h2]
    · exact h2.1
theorem step_two {g h : List Lim} {day : Int} {l l1 l2 : Lim} (hn : ((g ++ h).map Lim.id).Nodup) (h1 : step g day l = some l1) (h2 : step h day l1 = some l2) : step (g ++ h) day l = some l2 := by
  have hid := step_id h1
  unfold step at h1 h2 ⊢
  have hfh : firstT h l1 = firstT h l := by unfold firstT; rw [hid]
  rw [hfh] at h2
  have hfa : firstT (g ++ h) l = (firstT g l).or (firstT h l) := by unfold firstT; exact List.find?_append
  rw [hfa]
  cases hg : firstT g l with
  | none =>
    rw [hg] at h1
    cases h1
    rw [Option.none_or]
    exact h2
  | some t =>
    rw [hg] at h1
    cases hh : firstT h l with
    | none =>
      rw [hh] at h2
      cases h2
      exact h1
    | some s =>
      exfalso
      rw [List.map_append, List.nodup_append] at hn
      have ht := firstT_mem hg
      have hs := firstT_mem hh
      exact hn.2.2 _ (List.mem_map_of_mem ht.1) _ (List.mem_map_of_mem hs.1) (by rw [ht.2, hs.2])
theorem steps_two {g h : List Lim} {day : Int} (hn : ((g ++ h).map Lim.id).Nodup) : ∀ {l l1 l2 : List Lim}, steps g day l = some l1 → steps h day l1 = some l2 → steps (g ++ h) day l = some l2
  | [], l1, l2, h1, h2 => by cases h1; cases h2; rfl
  | a :: l, l1, l2, h1, h2 => by
    unfold steps at h1
    split at h1
    · cases h1
    · rename_i a1 ha
      split at h1
      · cases h1
      · rename_i r1 hr
        cases h1
        unfold steps at h2
        split at h2
        · cases h2
        · rename_i a2 ha2
          split at h2
          · cases h2
          · rename_i r2 hr2
            cases h2
            unfold steps
            rw [step_two hn ha ha2, steps_two hn hr hr2]
/-! ### Rights are carried over -/
theorem laid_comm {n k : Tx} {b c : Int} : ∀ (l : List Right), (∃ q ∈ l, q.name = n) → laid (laid l ⟨k, c⟩) ⟨n, b⟩ = laid (laid l ⟨n, b⟩) ⟨k, c⟩
  | [], h => by obtain ⟨q, h, -⟩ := h; cases h
  | q :: l, h => by
    by_cases h1 : q.name = n <;> by_cases h2 : q.name = k
    · obtain rfl : n = k := h1.symm.trans h2
      simp only [laid, h1, if_true]
      congr 2
      omega
    · simp [laid, h1, h2]
      have h3 : ¬ n = k := fun e => h2 (h1.trans e)
      simp [laid, h1, h3]
    · have h3 : ¬ k = n := fun e => h1 (h2.trans e)
      simp [laid, h1, h2, h3]
    · simp only [laid, h1, h2, if_false]
      rw [laid_comm l]
      obtain ⟨x, hx, he⟩ := h
      rcases List.mem_cons.1 hx with rfl | hx
      · exact absurd he h1
      · exact ⟨x, hx, he⟩
theorem laid_has {l : List Right} {r : Right} {n : Tx} (h : (∃ q ∈ l, q.name = n) ∨ r.name = n) : ∃ q ∈ laid l r, q.name = n := by
  induction l with
  | nil =>
    rcases h with ⟨q, h, -⟩ | h
    · cases h
    · exact ⟨r, by simp [laid], h⟩
  | cons q l ih =>
    unfold laid
    split
    · rename_i he
      rcases h with ⟨x, hx, e⟩ | h
      · rcases List.mem_cons.1 hx with rfl | hx
        · exact ⟨_, List.mem_cons_self, e⟩
        · exact ⟨x, List.mem_cons_of_mem _ hx, e⟩
      · exact ⟨_, List.mem_cons_self, he.trans h⟩
    · rcases h with ⟨x, hx, e⟩ | h
      · rcases List.mem_cons.1 hx with rfl | hx
        · exact ⟨_, List.mem_cons_self, e⟩
        · obtain ⟨y, hy, e2⟩ := ih (.inl ⟨x, hx, e⟩)
          exact ⟨y, List.mem_cons_of_mem _ hy, e2⟩
      · obtain ⟨y, hy, e2⟩ := ih (.inr h)
        exact ⟨y, List.mem_cons_of_mem _ hy, e2⟩
theorem carry_cons (f : Tx → Tx) (r : Right) (l acc : List Right) : carry f (r :: l) acc = carry f l (laid acc ⟨f r.name, r.since⟩) := rfl
theorem carry_back {f : Tx → Tx} {n : Tx} {b : Int} : ∀ (l acc : List Right), (∃ q ∈ acc, q.name = n) → laid (carry f l acc) ⟨n, b⟩ = carry f l (laid acc ⟨n, b⟩)
  | [], acc, _ => rfl
  | r :: l, acc, h => by
    rw [carry_cons, carry_cons, carry_back l _ (laid_has (.inl h)), laid_comm acc h]
theorem laid_min {l : List Right} {n : Tx} {a b : Int} : laid l ⟨n, min a b⟩ = laid (laid l ⟨n, a⟩) ⟨n, b⟩ := by
  induction l with
  | nil => simp [laid]
  | cons q l ih =>
    by_cases h : q.name = n
    · simp only [laid, h, if_true]
      congr 2
      omega
    · simp only [laid, h, if_false]
      rw [ih]
theorem carry_laid {f : Tx → Tx} {n : Tx} {a : Int} : ∀ (l acc : List Right), carry f (laid l ⟨n, a⟩) acc = laid (carry f l acc) ⟨f n, a⟩
  | [], acc => rfl
  | q :: l, acc => by
    by_cases h : q.name = n
    · rw [show laid (q :: l) ⟨n, a⟩ = ⟨n, min q.since a⟩ :: l by simp [laid, h]]
      rw [carry_cons, carry_cons, carry_back l _ (laid_has (.inr (by simp only [h]))), h, laid_min]
    · rw [show laid (q :: l) ⟨n, a⟩ = q :: laid l ⟨n, a⟩ by simp [laid, h]]
      rw [carry_cons, carry_cons, carry_laid l]
theorem carry_snoc (f : Tx → Tx) (r : Right) (l acc : List Right) : carry f (l ++ [r]) acc = laid (carry f l acc) ⟨f r.name, r.since⟩ := by
  unfold carry
  rw [List.foldl_append]
  rfl
theorem carry_two (f1 f2 : Tx → Tx) (l : List Right) : carry f2 (carry f1 l []) [] = carry (fun n => f2 (f1 n)) l [] := by
  have key : ∀ k (l : List Right), l.length = k → carry f2 (carry f1 l []) [] = carry (fun n => f2 (f1 n)) l [] := by
    intro k
    induction k with
    | zero => intro l h; rw [List.length_eq_zero_iff.1 h]; rfl
    | succ k ih =>
      intro l h
      rcases List.eq_nil_or_concat l with rfl | ⟨l2, r, rfl⟩
      · simp at h
      · rw [List.concat_eq_append] at *
        rw [carry_snoc, carry_laid, carry_snoc, ih l2 (by simpa using h)]
  exact key _ l rfl
theorem carry_congr {f g : Tx → Tx} (h : ∀ n, f n = g n) (l acc : List Right) : carry f l acc = carry g l acc := by rw [funext h]
/-! ### Names of rights through two migrations -/
theorem find_none {l : List Pair} {n : Tx} : find l n = none ↔ ∀ r ∈ l, r.x ≠ n := by
  unfold find
  rw [Option.map_eq_none_iff, List.find?_eq_none]
  simp
theorem find_some {l : List Pair} (hn : (l.map Pair.x).Nodup) {n v : Tx} : find l n = some v ↔ (⟨n, v⟩ : Pair) ∈ l := by
  unfold find
  constructor
  · intro h
    obtain ⟨r, hr, rfl⟩ := Option.map_eq_some_iff.1 h
    have h1 := List.mem_of_find?_eq_some hr
    have h2 := List.find?_some hr
    simp only [decide_eq_true_eq] at h2
    subst h2
    simpa using h1
  · intro h
    cases hf : l.reverse.find? fun r => decide (r.x = n) with
    | none =>
      have := List.find?_eq_none.1 hf ⟨n, v⟩ (by simpa using h)
      simp at this
    | some r =>
      have h1 : r ∈ l := by simpa using List.mem_of_find?_eq_some hf
      have h2 := List.find?_some hf
      simp only [decide_eq_true_eq] at h2
      have hinj : ∀ {l : List Pair}, (l.map Pair.x).Nodup → ∀ {a b : Pair}, a ∈ l → b ∈ l → a.x = b.x → a = b := by
        intro l
        induction l with
        | nil => intro _ a b h; cases h
        | cons c l ih =>
          intro hn a b ha hb e
          rw [List.map_cons, List.nodup_cons] at hn
          rcases List.mem_cons.1 ha with rfl | ha' <;> rcases List.mem_cons.1 hb with rfl | hb'
          · rfl
          · exact absurd (by rw [e]; exact List.mem_map_of_mem hb') hn.1
          · exact absurd (by rw [← e]; exact List.mem_map_of_mem ha') hn.1
          · exact ih hn.2 ha' hb' e
      have := hinj hn h1 h (by simp [h2])
      rw [this]
      rfl
theorem joinR_keys {g h : Mig} (hg : (g.rights.map Pair.x).Nodup) (hh : (h.rights.map Pair.x).Nodup) : ((joinR g h).map Pair.x).Nodup := by
  unfold joinR
  rw [List.map_append, List.nodup_append, List.map_map]
  refine ⟨hg, ?_, ?_⟩
  · exact hh.sublist (List.filter_sublist.map _)
  · intro a ha b hb e
    subst e
    obtain ⟨r, hr, rfl⟩ := List.mem_map.1 hb
    obtain ⟨h1, h2⟩ := List.mem_filter.1 hr
    obtain ⟨q, hq, e⟩ := List.mem_map.1 ha
    rw [Option.isNone_iff_eq_none, find_none] at h2
    exact h2 q hq e
theorem ren_two {g h : Mig} (hg : (g.rights.map Pair.x).Nodup) (hh : (h.rights.map Pair.x).Nodup) (n : Tx) : renB h.rights (renB g.rights n) = renB (joinR g h) n := by
  have hj := joinR_keys hg hh
  cases hf : find g.rights n with
  | some v =>
    have hm := (find_some hg).1 hf
    have : find (joinR g h) n = some (renB h.rights v) := (find_some hj).2 (List.mem_append_left _ (List.mem_map.2 ⟨⟨n, v⟩, hm, rfl⟩))
    unfold renB at *
    rw [hf, this]
    rfl
  | none =>
    have h1 : renB g.rights n = n := by unfold renB; rw [hf]; rfl
    rw [h1]
    cases hf2 : find h.rights n with
    | some v =>
      have hm := (find_some hh).1 hf2
      have : find (joinR g h) n = some v := (find_some hj).2 (List.mem_append_right _ (List.mem_filter.2 ⟨hm, by simp [hf]⟩))
      unfold renB
      rw [hf2, this]
    | none =>
      have : find (joinR g h) n = none := by
        rw [find_none]
        intro r hr e
        unfold joinR at hr
        rcases List.mem_append.1 hr with hr | hr
        · obtain ⟨q, hq, rfl⟩ := List.mem_map.1 hr
          exact find_none.1 hf q hq e
        · exact find_none.1 hf2 r (List.mem_filter.1 hr).1 e
      unfold renB
      rw [hf2, this]
/-! ### The two as one -/
theorem getD_map_stage {g h : Mig} {i : Nat} {s : Int} (hs : g.stages.getD i (-1) = s) (h0 : 0 ≤ s) : (thenM g h).stages.getD i (-1) = h.stages.getD s.toNat (-1) := by
  unfold thenM
  simp only [List.getD_eq_getElem?_getD, List.getElem?_map] at *
  cases hi : g.stages[i]? with
  | none => rw [hi] at hs; simp at hs; omega
  | some z =>
    rw [hi] at hs
    simp only [Option.getD_some] at hs
    subst hs
    simp [h0]
theorem maxI_of {n : Int} {l : List Int} (hne : l ≠ []) (h : ∀ x ∈ l, x < n) : maxI l < n := (maxI_lt hne).2 h
theorem apply_two {m x y : Mat} {g h b : Mig} {p q r : Proc} {day : Int} (h1 : applyB m g p q day = some x) (h2 : applyB x h q r day = some y) (h3 : thenB g h = some b) : applyB m b p r day = some y := by
  unfold thenB at h3
  split at h3
  · rename_i hc
    split at h3
    · rename_i hc2
      cases h3
      simp only [Bool.and_eq_true, decide_eq_true_eq] at hc
      obtain ⟨⟨⟨hg, hh⟩, hgh⟩, hmax⟩ := hc
      unfold applyB at h1 h2
      split at h1
      · rename_i hr1
        split at h1
        · cases h1
        · rename_i ls1 hs1
          cases h1
          split at h2
          · rename_i hr2
            split at h2
            · cases h2
            · rename_i ls2 hs2
              cases h2
              simp only [readyB, validB, Bool.and_eq_true, decide_eq_true_eq] at hr1 hr2
              obtain ⟨⟨⟨⟨⟨⟨⟨⟨⟨-, hp⟩, hq⟩, hv1⟩, hf1⟩, hmp⟩, hday⟩, hst1⟩, hop⟩, hmv⟩ := hr1
              obtain ⟨⟨⟨⟨⟨⟨⟨⟨⟨-, -⟩, hr⟩, hv2⟩, hf2⟩, hmp2⟩, -⟩, hst2⟩, -⟩, -⟩ := hr2
              have hgk := hg
              have hhk := hh
              simp only [migB, Bool.and_eq_true, decide_eq_true_eq] at hgk hhk
              obtain ⟨⟨⟨⟨⟨⟨⟨⟨g1, g2⟩, g3⟩, g4⟩, g5⟩, g6⟩, g7⟩, g8⟩, g9⟩ := hgk
              obtain ⟨⟨⟨⟨⟨⟨⟨⟨k1, k2⟩, k3⟩, k4⟩, k5⟩, k6⟩, k7⟩, k8⟩, k9⟩ := hhk
              have hmaxg := (maxI_lt g3).1 hmax
              have hpos : 0 < r.stages.length := by
                simp only [procB, Bool.and_eq_true, decide_eq_true_eq] at hr
                exact hr.1.1.2
              have hstg : ∀ z ∈ (thenM g h).stages, -1 ≤ z ∧ z < 60 ∧ z < (r.stages.length : Int) := by
                intro z hz
                unfold thenM at hz
                obtain ⟨s, hs, rfl⟩ := List.mem_map.1 hz
                have b1 := hmaxg s hs
                have b2 := List.all_eq_true.1 g5 s hs
                simp only [decide_eq_true_eq] at b2
                split
                · rename_i h0
                  have hlt : s.toNat < h.stages.length := by omega
                  have hm : h.stages.getD s.toNat (-1) ∈ h.stages := by
                    rw [List.getD_eq_getElem?_getD, List.getElem?_eq_getElem hlt, Option.getD_some]
                    exact List.getElem_mem _
                  have b3 := List.all_eq_true.1 k5 _ hm
                  simp only [decide_eq_true_eq] at b3
                  have b4 := (maxI_lt k3).1 hv2.2.2.2 _ hm
                  omega
                · omega
              have hrt : ∀ z ∈ (thenM g h).rights, Nm z.x = true ∧ Nm z.y = true := by
                intro z hz
                unfold thenM joinR at hz
                simp only at hz
                rcases List.mem_append.1 hz with hz | hz
                · obtain ⟨s, hs, rfl⟩ := List.mem_map.1 hz
                  have b1 := List.all_eq_true.1 g6 s hs
                  simp only [Bool.and_eq_true] at b1
                  refine ⟨b1.1, ?_⟩
                  simp only
                  unfold renB
                  cases hf : find h.rights s.y with
                  | none => exact b1.2
                  | some v =>
                    have b2 := List.all_eq_true.1 k6 _ ((find_some k8).1 hf)
                    simp only [Bool.and_eq_true] at b2
                    exact b2.2
                · have b2 := List.all_eq_true.1 k6 _ (List.mem_filter.1 hz).1
                  simp only [Bool.and_eq_true] at b2
                  exact b2
              have hlen : (thenM g h).stages.length = g.stages.length := by unfold thenM; simp
              have hne : (thenM g h).stages ≠ [] := by
                intro e
                rw [e] at hlen
                exact g3 (List.length_eq_zero_iff.1 hlen.symm)
              have hmig : migB (thenM g h) = true := by
                simp only [migB, Bool.and_eq_true, decide_eq_true_eq]
                refine ⟨⟨⟨⟨⟨⟨⟨⟨g1, k2⟩, hne⟩, ⟨by omega, hc2.2.1, hc2.2.2⟩⟩, ?_⟩, ?_⟩, ?_⟩, joinR_keys g8 k8⟩, hc2.1⟩
                · rw [List.all_eq_true]; intro z hz; have := hstg z hz; simp only [decide_eq_true_eq]; omega
                · rw [List.all_eq_true]; intro z hz; have := hrt z hz; simp [this]
                · have : (thenM g h).terms = g.terms ++ h.terms := rfl
                  rw [this, List.all_append, g7, k7]; rfl
              have hstage := getD_map_stage (g := g) (h := h) (i := m.stage.toNat) rfl hst1
              have hready : readyB m (thenM g h) p r day = true := by
                simp only [readyB, validB, Bool.and_eq_true, decide_eq_true_eq]
                refine ⟨⟨⟨⟨⟨⟨⟨⟨⟨hmig, hp⟩, hr⟩, ⟨hv1.1, hv2.2.1, by rw [hlen]; exact hv1.2.2.1, maxI_of hne fun z hz => (hstg z hz).2.2⟩⟩, hf1⟩, hmp⟩, hday⟩, ?_⟩, hop⟩, hmv⟩
                rw [hstage]
                exact hst2
              unfold applyB
              rw [if_pos hready]
              have hsteps : steps (thenM g h).terms day m.limits = some ls2 := steps_two hc2.1 hs1 hs2
              rw [hsteps]
              simp only
              rw [hstage]
              have hcarry : carry (renB (thenM g h).rights) m.rights [] = carry (renB h.rights) (carry (renB g.rights) m.rights []) [] := by
                rw [carry_two]
                exact carry_congr (fun n => (ren_two g8 k8 n).symm) _ _
              rw [hcarry]
              rfl
          · cases h2
      · cases h1
    · cases h3
  · cases h3
theorem runs_of {m x : Mat} {g : Mig} {p q : Proc} {day : Int} (h : applyB m g p q day = some x) : runsAll day g.terms m.limits x.limits = true := by
  unfold applyB at h
  split at h
  · rename_i hr
    split at h
    · cases h
    · rename_i ls hs
      cases h
      simp only [readyB, validB, migB, Bool.and_eq_true, decide_eq_true_eq] at hr
      exact runsAll_of hr.1.1.1.1.1.1.1.1.1.2 hr.1.1.1.1.1.1.1.1.1.1.1.2 hs
  · cases h
end Go.Top

set_option linter.unusedVariables false
set_option linter.unusedSimpArgs false
set_option linter.unnecessarySimpa false
set_option maxRecDepth 10000
namespace Go.Top
def filedS : Tx := [102, 105, 108, 101, 100]
def heardS : Tx := [104, 101, 97, 114, 100]
def triedS : Tx := [116, 114, 105, 101, 100]
def oldS : Tx := [111, 108, 100]
def newS : Tx := [110, 101, 119]
def appealS : Tx := [97, 112, 112, 101, 97, 108]
def reviewS : Tx := [114, 101, 118, 105, 101, 119]
def answerS : Tx := [97, 110, 115, 119, 101, 114]
def hP : Proc := ⟨oldS, [filedS, heardS], [⟨0, 1⟩]⟩
def hQ : Proc := ⟨newS, [filedS, triedS, heardS], [⟨0, 1⟩, ⟨1, 2⟩]⟩
def hL (n u f : Int) : Lim := ⟨answerS, n, u, f, []⟩
def hM : Mat := ⟨[109, 49], 5, [], oldS, 1, [7], [⟨appealS, 7⟩], [hL 30 1 7]⟩
def hG : Mig := ⟨oldS, newS, [0, 2], [⟨appealS, reviewS⟩], [hL 1 1 10]⟩
def hM2 : Mat := ⟨[109, 49], 5, [], newS, 2, [7], [⟨reviewS, 7⟩], [hL 10 1 20]⟩
theorem clockL_nil (f : Int) : clockL f [] = [] := by
  unfold clockL effS
  simp
theorem due_plain {l : Lim} {e : Nat} (hp : properB l = true) (hs : l.st = []) (hf : 0 ≤ l.f) (ha : addL l.f.toNat l.n.toNat l.u = some e) (ho : openD e = true) : dueL l = some e := by
  have he := addL_le ha
  unfold dueL
  rw [if_pos hp, ha, hs, clockL_nil]
  simp only [afterL]
  rw [show (l.f + ((e : Int) - l.f)).toNat = e by omega, openL, dif_pos he, ho]
  simp [pausedL]
theorem due1 : dueL (hL 30 1 7) = some 37 := due_plain (by decide +kernel) rfl (by decide) (by decide +kernel) (by decide +kernel)
theorem due2 : dueL (hL 1 1 7) = some 9 := due_plain (by decide +kernel) rfl (by decide) (by decide +kernel) (by decide +kernel)
theorem due3 : dueL (hL 10 1 20) = some 30 := due_plain (by decide +kernel) rfl (by decide) (by decide +kernel) (by decide +kernel)
theorem change1 : changeL (hL 30 1 7) 20 1 1 10 = some (hL 10 1 20) := by
  unfold changeL
  rw [if_pos (by decide +kernel), due1]
  simp only
  rw [if_neg (by decide)]
  have h2 : dueL { hL 30 1 7 with n := 1, u := 1 } = some 9 := due2
  have h3 : dueL { hL 30 1 7 with f := 20, n := 10, u := 1 } = some 30 := due3
  rw [h2]
  simp only
  rw [if_pos (by decide), h3]
  rfl
theorem ready1 : readyB hM hG hP hQ 20 = true := by decide +kernel
theorem steps1 : steps hG.terms 20 hM.limits = some [hL 10 1 20] := by
  have h : step hG.terms 20 (hL 30 1 7) = some (hL 10 1 20) := by
    have hf : firstT hG.terms (hL 30 1 7) = some (hL 1 1 10) := by decide +kernel
    unfold step
    rw [hf]
    exact change1
  show steps hG.terms 20 [hL 30 1 7] = _
  unfold steps
  rw [h]
  rfl
theorem apply1 : applyB hM hG hP hQ 20 = some hM2 := by
  unfold applyB
  rw [if_pos ready1, steps1]
  simp only
  have hc : carry (renB hG.rights) hM.rights [] = [⟨reviewS, 7⟩] := by decide +kernel
  rw [hc]
  rfl
end Go.Top
