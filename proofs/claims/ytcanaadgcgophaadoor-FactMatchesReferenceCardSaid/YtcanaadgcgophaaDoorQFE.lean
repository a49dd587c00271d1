/-
  The reference's reader as a machine on states; it answers as the grammar says; plain Lean.
-/
import Derived.Test.YtcanaadgcgophaaDoorQFB
set_option linter.unusedVariables false
set_option linter.unusedSimpArgs false
set_option linter.unnecessarySimpa false
set_option maxRecDepth 10000
namespace Go.Fac
open Go.Lexs (Tok lex)
open Go.Fo
structure RS where
  i : Nat
  er : Int
  at_ : Int
def RS.fault (s : RS) (e a : Int) : RS := if s.er = 0 then ⟨s.i, e, a⟩ else s
def RS.cf (s : RS) (b : Bool) (e a : Int) : RS := if b then s.fault e a else s
def RS.step (s : RS) : RS := ⟨s.i + 1, s.er, s.at_⟩
def seesS (ts : List Tok) (s : RS) (k : Nat) (w : Tx) : Bool := decide (s.er = 0) && seesB k w (ts.drop s.i)
def tokZ : Tok := ⟨0, [], 0, 0⟩
def takeS (en : Int) (ts : List Tok) (k : Nat) (w : Tx) (s : RS) : Tok × RS := if seesS ts s k w then ((ts.drop s.i).headD tokZ, s.step) else (tokZ, s.fault (failE (ts.drop s.i)) (failA en (ts.drop s.i)))
theorem seesS_lt {ts : List Tok} {s : RS} {k : Nat} {w : Tx} (h : seesS ts s k w = true) : s.i < ts.length := by
  unfold seesS at h
  rw [Bool.and_eq_true] at h
  cases hd : ts.drop s.i with
  | nil => rw [hd] at h; cases h.2
  | cons t r =>
    have := congrArg List.length hd
    simp at this
    omega
theorem fault_i (s : RS) (e a : Int) : (s.fault e a).i = s.i := by unfold RS.fault; split <;> rfl
theorem cf_i (s : RS) (b : Bool) (e a : Int) : (s.cf b e a).i = s.i := by unfold RS.cf; split; exact fault_i _ _ _; rfl
theorem takeS_le {en : Int} {ts : List Tok} {k : Nat} {w : Tx} {s : RS} (h : s.i ≤ ts.length) : (takeS en ts k w s).2.i ≤ ts.length := by
  unfold takeS
  split
  · rename_i hs
    exact seesS_lt hs
  · rw [fault_i]; exact h
/-! ### In error, nothing changes -/
theorem fault_dead {s : RS} (h : s.er ≠ 0) (e a : Int) : s.fault e a = s := if_neg h
theorem cf_dead {s : RS} (h : s.er ≠ 0) (b : Bool) (e a : Int) : s.cf b e a = s := by unfold RS.cf; split; exact fault_dead h _ _; rfl
theorem seesS_dead {ts : List Tok} {s : RS} (h : s.er ≠ 0) (k : Nat) (w : Tx) : seesS ts s k w = false := by unfold seesS; rw [decide_eq_false h]; rfl
theorem takeS_dead {en : Int} {ts : List Tok} {s : RS} (h : s.er ≠ 0) (k : Nat) (w : Tx) : takeS en ts k w s = (tokZ, s) := by
  unfold takeS
  rw [if_neg (by rw [seesS_dead h]; decide), fault_dead h]
def Agree {α : Type} (ts : List Tok) (p : α × RS) (x : Rd α) : Prop := match x with
  | .ok y r => p.1 = y ∧ p.2.er = 0 ∧ p.2.at_ = 0 ∧ ts.drop p.2.i = r ∧ p.2.i ≤ ts.length
  | .bad e a => p.2.er = e ∧ p.2.at_ = a ∧ e ≠ 0
theorem take_agree {en : Int} {ts : List Tok} {k : Nat} {w : Tx} {s : RS} (h0 : s.er = 0) (h1 : s.at_ = 0) (hi : s.i ≤ ts.length) : Agree ts (takeS en ts k w s) (takeK en k w (ts.drop s.i)) := by
  unfold takeS seesS
  rw [decide_eq_true h0, Bool.true_and]
  cases hd : ts.drop s.i with
  | nil =>
    rw [if_neg (by simp [seesB])]
    unfold RS.fault
    rw [if_pos h0]
    exact ⟨rfl, rfl, by simp [failE]⟩
  | cons t r =>
    have hlt : s.i < ts.length := by
      have := congrArg List.length hd
      simp at this
      omega
    simp only [takeK]
    by_cases hs : seesB k w (t :: r) = true
    · rw [if_pos hs, if_pos hs]
      have hr : ts.drop (s.i + 1) = r := by
        have := List.drop_eq_getElem_cons hlt
        rw [hd] at this
        exact (List.cons.inj this).2.symm
      exact ⟨rfl, h0, h1, hr, hlt⟩
    · rw [if_neg hs, if_neg hs]
      unfold RS.fault
      rw [if_pos h0]
      exact ⟨rfl, rfl, by simp [failE]⟩
/-! ### A fact -/
def spanS (en : Int) (ts : List Tok) (s : RS) : (Int × Int) × RS :=
  let lo := takeS en ts 2 [] s
  let s6 := lo.2.cf (decide (1000000 < lo.1.num)) 10 lo.1.pos
  let s7 := (takeS en ts 1 kTo s6).2
  let hi := takeS en ts 2 [] s7
  (((lo.1.num : Int), (hi.1.num : Int)), hi.2.cf (decide (1000000 < hi.1.num ∨ hi.1.num < lo.1.num)) 10 hi.1.pos)
def kindS (en : Int) (ts : List Tok) (s : RS) : Int × RS := if seesS ts s 1 kDay then (3, s.step) else (2, (takeS en ts 1 kNumber s).2)
def restS (en : Int) (ts : List Tok) (name : Tok) (s : RS) : Fact × RS :=
  if seesS ts s 1 kFlag then (⟨name.text, 1, 0, 1⟩, s.step) else
    let k := kindS en ts s
    let p := spanS en ts k.2
    (⟨name.text, k.1, p.1.1, p.1.2⟩, p.2)
def factS' (en : Int) (ts : List Tok) (F : List Fact) (s0 : RS) : Fact × RS :=
  let name := takeS en ts 1 [] s0
  let s2 := name.2.cf (decide (name.2.er = 0) && (idx F name.1.text).isSome) 9 name.1.pos
  let s3 := s2.cf (decide (s2.er = 0) && decide (F.length = 60)) 2 name.1.pos
  let x := restS en ts name.1 s3
  (x.1, (takeS en ts 3 kSemi x.2).2)
theorem spanS_dead {en : Int} {ts : List Tok} {s : RS} (h : s.er ≠ 0) : (spanS en ts s).2 = s := by
  simp only [spanS, takeS_dead h, cf_dead h]
theorem kindS_dead {en : Int} {ts : List Tok} {s : RS} (h : s.er ≠ 0) : (kindS en ts s).2 = s := by
  unfold kindS
  rw [seesS_dead h, if_neg (by decide), takeS_dead h]
theorem restS_dead {en : Int} {ts : List Tok} {name : Tok} {s : RS} (h : s.er ≠ 0) : (restS en ts name s).2 = s := by
  unfold restS
  rw [seesS_dead h, if_neg (by decide)]
  simp only
  rw [kindS_dead h, spanS_dead h]
theorem span_agree {en : Int} {ts : List Tok} {s : RS} (h0 : s.er = 0) (h1 : s.at_ = 0) (hi : s.i ≤ ts.length) : Agree ts (spanS en ts s) (spanP en (ts.drop s.i)) := by
  have a1 := take_agree (en := en) (k := 2) (w := []) h0 h1 hi
  unfold spanP
  simp only [spanS]
  generalize hlo : takeS en ts 2 [] s = lo at a1 ⊢
  cases ht : takeK en 2 [] (ts.drop s.i) with
  | bad e a =>
    rw [ht] at a1
    obtain ⟨e1, e2, e3⟩ := a1
    have hd : lo.2.er ≠ 0 := by rw [e1]; exact e3
    simp only [takeS_dead hd, cf_dead hd, Rd.bind]
    exact ⟨e1, e2, e3⟩
  | ok t r =>
    rw [ht] at a1
    obtain ⟨e1, e2, e3, e4, e5⟩ := a1
    simp only [Rd.bind]
    rw [← e1]
    by_cases hb : 1000000 < lo.1.num
    · rw [if_pos hb, decide_eq_true hb]
      have hc : lo.2.cf true 10 lo.1.pos = ⟨lo.2.i, 10, lo.1.pos⟩ := by simp [RS.cf, RS.fault, e2]
      rw [hc]
      have hd : (⟨lo.2.i, 10, lo.1.pos⟩ : RS).er ≠ 0 := by simp
      simp only [takeS_dead hd, cf_dead hd]
      exact ⟨rfl, rfl, by decide⟩
    · rw [if_neg hb, decide_eq_false hb]
      have hc : lo.2.cf false 10 lo.1.pos = lo.2 := rfl
      rw [hc, ← e4]
      have a2 := take_agree (en := en) (k := 1) (w := kTo) e2 e3 e5
      generalize htw : takeS en ts 1 kTo lo.2 = tw at a2 ⊢
      cases ht2 : takeK en 1 kTo (ts.drop lo.2.i) with
      | bad e a =>
        rw [ht2] at a2
        obtain ⟨f1, f2, f3⟩ := a2
        have hd : tw.2.er ≠ 0 := by rw [f1]; exact f3
        simp only [takeS_dead hd, cf_dead hd]
        exact ⟨f1, f2, f3⟩
      | ok t2 r2 =>
        rw [ht2] at a2
        obtain ⟨f1, f2, f3, f4, f5⟩ := a2
        simp only
        rw [← f4]
        have a3 := take_agree (en := en) (k := 2) (w := []) f2 f3 f5
        generalize hhi : takeS en ts 2 [] tw.2 = hi2 at a3 ⊢
        cases ht3 : takeK en 2 [] (ts.drop tw.2.i) with
        | bad e a =>
          rw [ht3] at a3
          obtain ⟨g1, g2, g3⟩ := a3
          have hd : hi2.2.er ≠ 0 := by rw [g1]; exact g3
          rw [cf_dead hd]
          exact ⟨g1, g2, g3⟩
        | ok t3 r3 =>
          rw [ht3] at a3
          obtain ⟨g1, g2, g3, g4, g5⟩ := a3
          simp only
          rw [← g1]
          by_cases hb2 : 1000000 < hi2.1.num ∨ hi2.1.num < lo.1.num
          · rw [if_pos hb2, decide_eq_true hb2]
            have hc : hi2.2.cf true 10 hi2.1.pos = ⟨hi2.2.i, 10, hi2.1.pos⟩ := by simp [RS.cf, RS.fault, g2]
            rw [hc]
            exact ⟨rfl, rfl, by decide⟩
          · rw [if_neg hb2, decide_eq_false hb2]
            exact ⟨rfl, g2, g3, g4, g5⟩
def restP (en : Int) (name : Tok) (ts : List Tok) : Rd Fact := (takeK en 1 [] ts).bind fun word r => if kindOf word.text = 0 then .bad 5 word.pos else
  (if kindOf word.text = 1 then Rd.ok ((0 : Int), (1 : Int)) r else spanP en r).bind fun p r => .ok ⟨name.text, kindOf word.text, p.1, p.2⟩ r
theorem rest_agree {en : Int} {ts : List Tok} {name : Tok} {s : RS} (h0 : s.er = 0) (h1 : s.at_ = 0) (hi : s.i ≤ ts.length) : Agree ts (restS en ts name s) (restP en name (ts.drop s.i)) := by
  have hsees : ∀ w, seesS ts s 1 w = seesB 1 w (ts.drop s.i) := fun w => by unfold seesS; rw [decide_eq_true h0, Bool.true_and]
  have hst : ∀ t r, ts.drop s.i = t :: r → s.i < ts.length ∧ ts.drop (s.i + 1) = r := fun t r hd => by
    have hlt : s.i < ts.length := by
      have := congrArg List.length hd
      simp at this
      omega
    refine ⟨hlt, ?_⟩
    have := List.drop_eq_getElem_cons hlt
    rw [hd] at this
    exact (List.cons.inj this).2.symm
  unfold restS restP
  rw [hsees]
  cases hd : ts.drop s.i with
  | nil =>
    rw [if_neg (by simp [seesB])]
    have hk : kindS en ts s = (2, ⟨s.i, 6, en⟩) := by
      unfold kindS
      rw [hsees, hd, if_neg (by simp [seesB])]
      unfold takeS
      rw [hsees, hd, if_neg (by simp [seesB])]
      simp [RS.fault, h0, failE, failA]
    simp only [hk]
    rw [spanS_dead (by simp)]
    exact ⟨rfl, rfl, by decide⟩
  | cons t r =>
    obtain ⟨hlt, hr⟩ := hst t r hd
    by_cases hk1 : t.kind = 1
    · have ht : takeK en 1 [] (t :: r) = .ok t r := by
        simp [takeK, seesB, hk1]
      rw [ht]
      simp only [Rd.bind]
      have hsb : ∀ w : Tx, w ≠ [] → seesB 1 w (t :: r) = decide (t.text = w) := fun w hw => by simp [seesB, hk1, hw]
      rw [hsb kFlag (by decide)]
      by_cases hf : t.text = kFlag
      · have hko : kindOf t.text = 1 := by unfold kindOf; rw [if_pos hf]
        rw [decide_eq_true hf, if_pos rfl, hko, if_neg (by decide), if_pos rfl]
        exact ⟨rfl, h0, h1, hr, hlt⟩
      · rw [decide_eq_false hf, if_neg (by decide)]
        by_cases hdy : t.text = kDay
        · have hko : kindOf t.text = 3 := by unfold kindOf; rw [if_neg hf, if_neg (by rw [hdy]; decide), if_pos hdy]
          have hk : kindS en ts s = (3, s.step) := by
            unfold kindS
            rw [hsees, hd, hsb kDay (by decide), decide_eq_true hdy, if_pos rfl]
          simp only [hk]
          rw [hko, if_neg (by decide), if_neg (by decide)]
          have ag := span_agree (en := en) (ts := ts) (s := s.step) h0 h1 hlt
          rw [show s.step.i = s.i + 1 from rfl, hr] at ag
          cases hsp : spanP en r with
          | bad e a => rw [hsp] at ag; exact ag
          | ok p r2 =>
            rw [hsp] at ag
            obtain ⟨g1, g2, g3, g4, g5⟩ := ag
            exact ⟨by rw [g1], g2, g3, g4, g5⟩
        · have hk : kindS en ts s = (2, (takeS en ts 1 kNumber s).2) := by
            unfold kindS
            rw [hsees, hd, hsb kDay (by decide), decide_eq_false hdy, if_neg (by decide)]
          simp only [hk]
          by_cases hnu : t.text = kNumber
          · have hko : kindOf t.text = 2 := by unfold kindOf; rw [if_neg hf, if_pos hnu]
            have htk : takeS en ts 1 kNumber s = (t, s.step) := by
              unfold takeS
              rw [hsees, hd, hsb kNumber (by decide), decide_eq_true hnu, if_pos rfl]
              rfl
            rw [htk, hko, if_neg (by decide), if_neg (by decide)]
            have ag := span_agree (en := en) (ts := ts) (s := s.step) h0 h1 hlt
            rw [show s.step.i = s.i + 1 from rfl, hr] at ag
            cases hsp : spanP en r with
            | bad e a => rw [hsp] at ag; exact ag
            | ok p r2 =>
              rw [hsp] at ag
              obtain ⟨g1, g2, g3, g4, g5⟩ := ag
              exact ⟨by rw [g1], g2, g3, g4, g5⟩
          · have hko : kindOf t.text = 0 := by unfold kindOf; rw [if_neg hf, if_neg hnu, if_neg hdy]
            have htk : (takeS en ts 1 kNumber s).2 = ⟨s.i, 5, t.pos⟩ := by
              unfold takeS
              rw [hsees, hd, hsb kNumber (by decide), decide_eq_false hnu, if_neg (by decide)]
              simp [RS.fault, h0, failE, failA]
            rw [htk, hko, if_pos rfl, spanS_dead (by simp)]
            exact ⟨rfl, rfl, by decide⟩
    · have hsb : ∀ w : Tx, seesB 1 w (t :: r) = false := fun w => by simp [seesB, hk1]
      have ht : takeK en 1 [] (t :: r) = failR en (t :: r) := by simp [takeK, hsb]
      rw [ht, hsb, if_neg (by decide)]
      have hk : kindS en ts s = (2, ⟨s.i, 5, t.pos⟩) := by
        unfold kindS
        rw [hsees, hd, hsb, if_neg (by decide)]
        unfold takeS
        rw [hsees, hd, hsb, if_neg (by decide)]
        simp [RS.fault, h0, failE, failA]
      simp only [hk]
      rw [spanS_dead (by simp)]
      exact ⟨rfl, rfl, by simp [failE]⟩
theorem factP_rest (en : Int) (F : List Fact) (ts : List Tok) : factP en F ts = (takeK en 1 [] ts).bind fun name r => if (idx F name.text).isSome then .bad 9 name.pos else if F.length = 60 then .bad 2 name.pos else (restP en name r).bind fun f r => (takeK en 3 kSemi r).bind fun _ r => .ok f r := by
  unfold factP restP
  cases takeK en 1 [] ts with
  | bad e a => rfl
  | ok name r =>
    simp only [Rd.bind]
    split
    · rfl
    · split
      · rfl
      · cases takeK en 1 [] r with
        | bad e a => rfl
        | ok word r2 =>
          simp only
          split
          · rfl
          · cases (if kindOf word.text = 1 then Rd.ok ((0 : Int), (1 : Int)) r2 else spanP en r2) with
            | bad e a => rfl
            | ok p r3 => rfl
theorem fact_agree {en : Int} {ts : List Tok} {F : List Fact} {s : RS} (h0 : s.er = 0) (h1 : s.at_ = 0) (hi : s.i ≤ ts.length) : Agree ts (factS' en ts F s) (factP en F (ts.drop s.i)) := by
  rw [factP_rest]
  have a1 := take_agree (en := en) (k := 1) (w := []) h0 h1 hi
  simp only [factS']
  generalize hnm : takeS en ts 1 [] s = nm at a1 ⊢
  cases ht : takeK en 1 [] (ts.drop s.i) with
  | bad e a =>
    rw [ht] at a1
    obtain ⟨e1, e2, e3⟩ := a1
    have hd : nm.2.er ≠ 0 := by rw [e1]; exact e3
    rw [cf_dead hd, cf_dead hd, restS_dead hd, takeS_dead hd]
    exact ⟨e1, e2, e3⟩
  | ok t r =>
    rw [ht] at a1
    obtain ⟨e1, e2, e3, e4, e5⟩ := a1
    simp only [Rd.bind]
    rw [← e1, decide_eq_true e2, Bool.true_and]
    cases hx : (idx F nm.1.text).isSome
    rotate_left
    · have hc : nm.2.cf true 9 nm.1.pos = ⟨nm.2.i, 9, nm.1.pos⟩ := by simp [RS.cf, RS.fault, e2]
      rw [hc, if_pos rfl]
      have hd : (⟨nm.2.i, 9, nm.1.pos⟩ : RS).er ≠ 0 := by simp
      rw [cf_dead hd, restS_dead hd, takeS_dead hd]
      exact ⟨rfl, rfl, by decide⟩
    have hc : nm.2.cf false 9 nm.1.pos = nm.2 := rfl
    rw [hc, if_neg (by decide), decide_eq_true e2, Bool.true_and]
    by_cases h60 : F.length = 60
    · have hc : nm.2.cf true 2 nm.1.pos = ⟨nm.2.i, 2, nm.1.pos⟩ := by simp [RS.cf, RS.fault, e2]
      rw [decide_eq_true h60, hc, if_pos h60]
      have hd : (⟨nm.2.i, 2, nm.1.pos⟩ : RS).er ≠ 0 := by simp
      rw [restS_dead hd, takeS_dead hd]
      exact ⟨rfl, rfl, by decide⟩
    have hc : nm.2.cf false 2 nm.1.pos = nm.2 := rfl
    rw [decide_eq_false h60, hc, if_neg h60, ← e4]
    have a2 := rest_agree (en := en) (name := nm.1) e2 e3 e5
    generalize hrs : restS en ts nm.1 nm.2 = x at a2 ⊢
    cases hrp : restP en nm.1 (ts.drop nm.2.i) with
    | bad e a =>
      rw [hrp] at a2
      obtain ⟨f1, f2, f3⟩ := a2
      have hd : x.2.er ≠ 0 := by rw [f1]; exact f3
      rw [takeS_dead hd]
      exact ⟨f1, f2, f3⟩
    | ok f r2 =>
      rw [hrp] at a2
      obtain ⟨f1, f2, f3, f4, f5⟩ := a2
      simp only
      rw [← f4]
      have a3 := take_agree (en := en) (k := 3) (w := kSemi) f2 f3 f5
      cases ht3 : takeK en 3 kSemi (ts.drop x.2.i) with
      | bad e a => rw [ht3] at a3; exact a3
      | ok t3 r3 =>
        rw [ht3] at a3
        exact ⟨f1, a3.2.1, a3.2.2.1, a3.2.2.2.1, a3.2.2.2.2⟩
end Go.Fac

set_option linter.unusedVariables false
set_option linter.unusedSimpArgs false
set_option linter.unnecessarySimpa false
set_option maxRecDepth 10000
namespace Go.Fac
open Go.Lexs (Tok lex)
open Go.Fo
def commaS (en : Int) (ts : List Tok) (s : RS) : RS := if s.i = 0 then s else (takeS en ts 3 kComma s).2
def outB (F : List Fact) (k : Nat) (z : Nat) : Bool := decide ((z : Int) < (factAt F k).lo ∨ (factAt F k).hi < (z : Int))
def itemS' (en : Int) (ts : List Tok) (F : List Fact) (seen : List Bool) (s0 : RS) : (Nat × Int) × RS :=
  let nm := takeS en ts 1 [] (commaS en ts s0)
  let k := (idxI F nm.1.text).toNat
  let s2 := nm.2.cf (decide (nm.2.er = 0) && (idx F nm.1.text).isNone) 7 nm.1.pos
  let s3 := s2.cf (decide (s2.er = 0) && seen.getD k false) 9 nm.1.pos
  let n := takeS en ts 2 [] (takeS en ts 3 kEq s3).2
  ((k, (n.1.num : Int)), n.2.cf (decide (n.2.er = 0) && outB F k n.1.num) 10 n.1.pos)
theorem commaS_i {en : Int} {ts : List Tok} {s : RS} (h : s.i ≤ ts.length) : (commaS en ts s).i ≤ ts.length := by
  unfold commaS
  split
  · exact h
  · exact takeS_le h
theorem itemS_i {en : Int} {ts : List Tok} {F : List Fact} {seen : List Bool} {s : RS} (h : s.i ≤ ts.length) : (itemS' en ts F seen s).2.i ≤ ts.length := by
  simp only [itemS']
  rw [cf_i]
  refine takeS_le (takeS_le ?_)
  rw [cf_i, cf_i]
  exact takeS_le (commaS_i h)
theorem comma_agree {en : Int} {ts : List Tok} {s : RS} (h0 : s.er = 0) (h1 : s.at_ = 0) (hi : s.i ≤ ts.length) : Agree ts ((), commaS en ts s) (commaP en (decide (s.i = 0)) (ts.drop s.i)) := by
  unfold commaS commaP
  by_cases hz : s.i = 0
  · rw [if_pos hz, decide_eq_true hz, if_pos rfl]
    exact ⟨rfl, h0, h1, rfl, hi⟩
  · rw [if_neg hz, decide_eq_false hz, if_neg (by decide)]
    have a1 := take_agree (en := en) (k := 3) (w := kComma) h0 h1 hi
    cases ht : takeK en 3 kComma (ts.drop s.i) with
    | bad e a => rw [ht] at a1; exact a1
    | ok t r => rw [ht] at a1; exact ⟨rfl, a1.2⟩
theorem item_agree {en : Int} {ts : List Tok} {F : List Fact} {seen : List Bool} {s : RS} (h0 : s.er = 0) (h1 : s.at_ = 0) (hi : s.i ≤ ts.length) : Agree ts (itemS' en ts F seen s) (itemP en F seen (decide (s.i = 0)) (ts.drop s.i)) := by
  rw [itemP_eq]
  have a0 := comma_agree (en := en) h0 h1 hi
  simp only [itemS']
  generalize hcm : commaS en ts s = cm at a0 ⊢
  cases hc : commaP en (decide (s.i = 0)) (ts.drop s.i) with
  | bad e a =>
    rw [hc] at a0
    obtain ⟨e1, e2, e3⟩ := a0
    have hd : cm.er ≠ 0 := by simp only at e1; rw [e1]; exact e3
    rw [takeS_dead hd]
    simp only
    rw [cf_dead hd, cf_dead hd, takeS_dead hd]
    simp only
    rw [takeS_dead hd]
    simp only
    rw [cf_dead hd]
    exact ⟨e1, e2, e3⟩
  | ok u r0 =>
    rw [hc] at a0
    obtain ⟨-, e2, e3, e4, e5⟩ := a0
    simp only at e2 e3 e4 e5
    simp only [Rd.bind]
    rw [← e4]
    have a1 := take_agree (en := en) (k := 1) (w := []) e2 e3 e5
    generalize hnm : takeS en ts 1 [] cm = nm at a1 ⊢
    cases ht : takeK en 1 [] (ts.drop cm.i) with
    | bad e a =>
      rw [ht] at a1
      obtain ⟨f1, f2, f3⟩ := a1
      have hd : nm.2.er ≠ 0 := by rw [f1]; exact f3
      rw [cf_dead hd, cf_dead hd, takeS_dead hd]
      simp only
      rw [takeS_dead hd]
      simp only
      rw [cf_dead hd]
      exact ⟨f1, f2, f3⟩
    | ok t r =>
      rw [ht] at a1
      obtain ⟨f1, f2, f3, f4, f5⟩ := a1
      simp only
      rw [← f1, decide_eq_true f2, Bool.true_and]
      unfold valP
      cases hix : idx F nm.1.text with
      | none =>
        have hcf : nm.2.cf true 7 nm.1.pos = ⟨nm.2.i, 7, nm.1.pos⟩ := by simp [RS.cf, RS.fault, f2]
        rw [show (none : Option Nat).isNone = true from rfl, hcf]
        have hd : (⟨nm.2.i, 7, nm.1.pos⟩ : RS).er ≠ 0 := by simp
        rw [cf_dead hd, takeS_dead hd]
        simp only
        rw [takeS_dead hd]
        simp only
        rw [cf_dead hd]
        exact ⟨rfl, rfl, by decide⟩
      | some k =>
        have hkk : (idxI F nm.1.text).toNat = k := by unfold idxI; rw [hix]; rfl
        rw [hkk, show (some k).isNone = false from rfl, show nm.2.cf false 7 nm.1.pos = nm.2 from rfl, decide_eq_true f2, Bool.true_and]
        simp only
        cases hsn : seen.getD k false with
        | true =>
          have hcf : nm.2.cf true 9 nm.1.pos = ⟨nm.2.i, 9, nm.1.pos⟩ := by simp [RS.cf, RS.fault, f2]
          rw [hcf, if_pos rfl]
          have hd : (⟨nm.2.i, 9, nm.1.pos⟩ : RS).er ≠ 0 := by simp
          rw [takeS_dead hd]
          simp only
          rw [takeS_dead hd]
          simp only
          rw [cf_dead hd]
          exact ⟨rfl, rfl, by decide⟩
        | false =>
          rw [show nm.2.cf false 9 nm.1.pos = nm.2 from rfl, if_neg (by decide), ← f4]
          have a2 := take_agree (en := en) (k := 3) (w := kEq) f2 f3 f5
          generalize htq : takeS en ts 3 kEq nm.2 = tq at a2 ⊢
          cases ht2 : takeK en 3 kEq (ts.drop nm.2.i) with
          | bad e a =>
            rw [ht2] at a2
            obtain ⟨g1, g2, g3⟩ := a2
            have hd : tq.2.er ≠ 0 := by rw [g1]; exact g3
            rw [takeS_dead hd]
            simp only
            rw [cf_dead hd]
            exact ⟨g1, g2, g3⟩
          | ok t2 r2 =>
            rw [ht2] at a2
            obtain ⟨g1, g2, g3, g4, g5⟩ := a2
            simp only [Rd.bind]
            rw [← g4]
            have a3 := take_agree (en := en) (k := 2) (w := []) g2 g3 g5
            generalize htn : takeS en ts 2 [] tq.2 = n at a3 ⊢
            cases ht3 : takeK en 2 [] (ts.drop tq.2.i) with
            | bad e a =>
              rw [ht3] at a3
              obtain ⟨j1, j2, j3⟩ := a3
              have hd : n.2.er ≠ 0 := by rw [j1]; exact j3
              rw [cf_dead hd]
              exact ⟨j1, j2, j3⟩
            | ok t3 r3 =>
              rw [ht3] at a3
              obtain ⟨j1, j2, j3, j4, j5⟩ := a3
              simp only
              rw [← j1, decide_eq_true j2, Bool.true_and]
              unfold outB
              by_cases hb : (n.1.num : Int) < (factAt F k).lo ∨ (factAt F k).hi < (n.1.num : Int)
              · rw [decide_eq_true hb, if_pos hb]
                have hcf : n.2.cf true 10 n.1.pos = ⟨n.2.i, 10, n.1.pos⟩ := by simp [RS.cf, RS.fault, j2]
                rw [hcf]
                exact ⟨rfl, rfl, by decide⟩
              · rw [decide_eq_false hb, if_neg hb]
                exact ⟨rfl, j2, j3, j4, j5⟩
def OnC (en : Int) (ts : List Tok) (F : List Fact) (q : List Int ⊕ (Int × Int)) (c : List Int) (seen : List Bool) (s : RS) : Prop :=
  s.i ≤ ts.length ∧ c.length = F.length ∧ seen.length = F.length ∧ ((s.er = 0 ∧ s.at_ = 0 ∧ ∃ f, (ts.drop s.i).length ≤ f ∧ itemsP en F f (decide (s.i = 0)) c seen (ts.drop s.i) = q) ∨ (s.er ≠ 0 ∧ q = .inr (s.er, s.at_)))
def cOf (c : List Int) (p : (Nat × Int) × RS) : List Int := if p.2.er = 0 then c.set p.1.1 p.1.2 else c
def snOf (seen : List Bool) (p : (Nat × Int) × RS) : List Bool := if p.2.er = 0 then seen.set p.1.1 true else seen
theorem itemP_lt {en : Int} {F : List Fact} {seen : List Bool} {first : Bool} {ts : List Tok} {p : Nat × Int} {r : List Tok} (h : itemP en F seen first ts = .ok p r) : r.length < ts.length := by
  rw [itemP_eq] at h
  obtain ⟨u, s, h1, h2⟩ := bind_ok h
  have e1 := (commaP_ends en first) _ _ _ h1
  obtain ⟨name, s2, h3, h4⟩ := bind_ok h2
  obtain ⟨rfl, -⟩ := takeK_ok h3
  have e2 := (valP_ends en F seen name) _ _ _ h4
  have := e1.length_le
  have := e2.length_le
  simp only [List.length_cons] at *
  omega
theorem OnC.step {en : Int} {ts : List Tok} {F : List Fact} {q : List Int ⊕ (Int × Int)} {c : List Int} {seen : List Bool} {s : RS} (h : OnC en ts F q c seen s) (h0 : s.er = 0) (hlt : s.i < ts.length) : OnC en ts F q (cOf c (itemS' en ts F seen s)) (snOf seen (itemS' en ts F seen s)) (itemS' en ts F seen s).2 ∧ ((itemS' en ts F seen s).2.er = 0 → s.i < (itemS' en ts F seen s).2.i) := by
  obtain ⟨hi, hc, hsn, h | h⟩ := h
  rotate_left
  · exact absurd h0 h.1
  obtain ⟨-, h1, f, hf, hq⟩ := h
  have ag := item_agree (en := en) (F := F) (seen := seen) h0 h1 hi
  have hii := itemS_i (en := en) (F := F) (seen := seen) hi
  obtain ⟨g, rfl⟩ : ∃ g, f = g + 1 := ⟨f - 1, by rw [List.length_drop] at hf; omega⟩
  have hne : ts.drop s.i ≠ [] := fun h => by
    have := congrArg List.length h
    rw [List.length_drop] at this
    simp at this
    omega
  simp only [itemsP] at hq
  rw [if_neg hne] at hq
  have hcl : (cOf c (itemS' en ts F seen s)).length = F.length := by unfold cOf; split; rw [List.length_set]; exact hc; exact hc
  have hsl : (snOf seen (itemS' en ts F seen s)).length = F.length := by unfold snOf; split; rw [List.length_set]; exact hsn; exact hsn
  cases hp : itemP en F seen (decide (s.i = 0)) (ts.drop s.i) with
  | bad e a =>
    rw [hp] at ag hq
    obtain ⟨e1, e2, e3⟩ := ag
    refine ⟨⟨hii, hcl, hsl, .inr ⟨by rw [e1]; exact e3, ?_⟩⟩, fun h => absurd h (by rw [e1]; exact e3)⟩
    rw [e1, e2]
    exact hq.symm
  | ok x r =>
    rw [hp] at ag hq
    obtain ⟨e1, e2, e3, e4, e5⟩ := ag
    have hl := itemP_lt hp
    rw [← e4] at hl
    rw [List.length_drop, List.length_drop] at hl
    have hlt2 : s.i < (itemS' en ts F seen s).2.i := by omega
    refine ⟨⟨hii, hcl, hsl, .inl ⟨e2, e3, g, ?_, ?_⟩⟩, fun _ => hlt2⟩
    · rw [List.length_drop] at hf ⊢
      omega
    · have hn0 : ¬ (itemS' en ts F seen s).2.i = 0 := by omega
      unfold cOf snOf
      rw [if_pos e2, if_pos e2, decide_eq_false hn0, e4, e1]
      exact hq
theorem cf_fault (s : RS) (b : Bool) (e a : Int) (he : e ≠ 0) : (s.cf b e a).fault e a = s.cf true e a := by
  unfold RS.cf RS.fault
  cases b <;> by_cases h : s.er = 0 <;> simp [h, he]
end Go.Fac
