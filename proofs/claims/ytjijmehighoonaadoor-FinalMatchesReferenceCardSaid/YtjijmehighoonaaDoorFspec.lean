/-
  A register of verdicts, in plain Lean: no program in sight.
-/
import Derived.Test.YtjijmehighoonaaDoorP
set_option linter.unusedVariables false
set_option linter.unusedSimpArgs false
set_option linter.unnecessarySimpa false
set_option maxRecDepth 10000
namespace Go.Fin
open Go.Lexs

/-- Is a text a name? -/
def Nm (s : List UInt8) : Bool := s.all isWord && decide (0 < s.length ∧ s.length ≤ 24 ∧ hd s = 3)

theorem spanLen_all' {p : UInt8 → Bool} : ∀ (s : List UInt8), s.all p = true → spanLen p s = s.length
  | [], _ => rfl
  | c :: s, h => by
    simp only [List.all_cons, Bool.and_eq_true] at h
    simp only [spanLen, h.1, if_true, spanLen_all' s h.2, List.length_cons]

theorem spanLen_all_of {p : UInt8 → Bool} : ∀ (s : List UInt8), spanLen p s = s.length → s.all p = true
  | [], _ => rfl
  | c :: s, h => by
    simp only [spanLen] at h
    split at h
    · rename_i hc
      simp only [List.length_cons] at h
      rw [List.all_cons, hc, spanLen_all_of s (by omega)]
      rfl
    · simp at h

/-- One token that is the whole text, and a name. -/
theorem lex_name (s : List UInt8) : (∃ t, lex s = .ok [t] ∧ t.kind = 1 ∧ t.text = s) ↔ Nm s = true := by
  constructor
  · rintro ⟨t, h, hk, ht⟩
    have hlen : ¬ 20000 < s.length := fun hl => by unfold lex at h; rw [if_pos hl] at h; cases h
    obtain ⟨l, r, hx⟩ := Lx.exists s.length 0 s (Nat.le_refl _)
    -- the first token is the whole text
    obtain ⟨fs, hf1, hf2⟩ := hx.founds s.length (Nat.le_refl _)
    unfold lex at h
    rw [if_neg hlen, hf1] at h
    have hshape : ∃ s', skip false s = s' ∧ s' ≠ [] ∧ (one s').err = 0 ∧ t = (found (0 + (s.length - s'.length)) s').tok := by
      cases l with
      | nil =>
        simp only [List.map_nil, List.nil_append] at h
        cases r with
        | none => simp only at hf2; subst hf2; simp [gather] at h
        | some ep =>
          obtain ⟨e, p⟩ := ep
          obtain ⟨he, k, rfl, -⟩ := hf2
          simp [gather, he] at h
      | cons u l =>
        obtain ⟨s', h1, h2, h3, h4, -⟩ := hx.next_ne
        refine ⟨s', h1, h2, h3, ?_⟩
        rw [← h4]
        simp only [List.map_cons, List.cons_append, gather, ne_eq, not_true_eq_false, if_false, List.length_nil, List.nil_append] at h
        rw [if_neg (by omega)] at h
        have key : ∀ (fs : List Found) (acc : List Tok), (∃ a b, acc = a :: b) → gather acc fs = .ok [t] → ∃ b, acc = t :: b := by
          intro fs
          induction fs with
          | nil =>
            rintro acc ⟨a, b, rfl⟩ h
            simp only [gather, Res.ok.injEq] at h
            exact ⟨b, by rw [h]; simp at h; rw [h.2]⟩
          | cons f fs ih =>
            rintro acc ⟨a, b, rfl⟩ h
            simp only [gather] at h
            split at h
            · cases h
            · split at h
              · cases h
              · obtain ⟨b', hb⟩ := ih _ ⟨a, b ++ [f.tok], rfl⟩ h
                simp at hb
                exact ⟨b, by rw [hb.1]⟩
        obtain ⟨b', hb⟩ := key _ _ ⟨u, [], rfl⟩ h
        simp at hb
        exact hb.1.symm
    obtain ⟨s', h1, h2, h3, rfl⟩ := hshape
    simp only [found] at hk ht
    have hl := skip_length false s
    rw [h1] at hl
    have hle := one_len_le s' h2
    have htl : (s'.take (one s').len).length = s.length := by rw [ht]
    rw [List.length_take] at htl
    have hs' : s' = s := by
      have := skip_drop h1
      rw [show s.length - s'.length = 0 by omega] at this
      simpa using this.symm
    subst hs'
    have hfull : (one s').len = s'.length := by omega
    have hpos := List.length_pos_iff.2 h2
    unfold one at hk h3 hfull
    unfold Nm
    split at hk
    · rename_i hh
      rw [hh] at h3 hfull
      simp only at h3 hfull
      rw [spanLen_all_of s' hfull]
      rw [hfull] at h3
      simp only [Bool.true_and, decide_eq_true_eq]
      refine ⟨hpos, ?_, hh⟩
      split at h3
      · cases h3
      · omega
    · simp only at hk; split at hk <;> cases hk
    · cases hk
    · cases hk
    · split at hk <;> cases hk
    · cases hk
  · intro h
    unfold Nm at h
    simp only [Bool.and_eq_true, decide_eq_true_eq] at h
    obtain ⟨h1, h2, h3, h4⟩ := h
    have o1 : one s = ⟨1, s.length, 0, 0⟩ := by
      unfold one
      rw [h4]
      simp only [spanLen_all' s h1]
      rw [if_neg (by omega)]
    have k1 : skip false s = s := by
      cases s with
      | nil => rfl
      | cons a t => simp only [hd] at h4; exact skip_of_head (by omega) (by omega)
    have hx : Lx 0 s [(found (0 + (s.length - s.length)) s).tok] none :=
      .tok k1 (by intro h; rw [h] at h2; simp at h2) (by rw [o1]) (.nil (by rw [o1, List.drop_of_length_le (Nat.le_refl _)]; rfl))
    refine ⟨_, hx.lex (by omega), by simp only [found, o1], by simp only [found, o1, List.take_of_length_le (Nat.le_refl _)]⟩

theorem gather_err : ∀ (fs : List Found) (acc : List Tok) (e : Nat) (off : Int), gather acc fs = .bad e off → e ≠ 0
  | [], acc, e, off, h => by cases h
  | f :: fs, acc, e, off, h => by
    simp only [gather] at h
    split at h
    · rename_i hf
      cases h
      exact hf
    · split at h
      · cases h; omega
      · exact gather_err fs _ e off h

theorem lex_err {s : List UInt8} {e : Nat} {off : Int} (h : lex s = .bad e off) : e ≠ 0 := by
  unfold lex at h
  split at h
  · cases h; omega
  · exact gather_err _ _ _ _ h

structure Ver where
  id : List UInt8
  matter : List UInt8
  question : List UInt8
  value : Int
  day : Int
  fin : Bool
  reopens : List UInt8
  deriving DecidableEq

def valid (v : Ver) : Bool := Nm v.id && Nm v.matter && Nm v.question && (decide (v.reopens = []) || Nm v.reopens) && decide (0 ≤ v.value) && decide (v.value ≤ 1000000) && decide (0 ≤ v.day) && decide (v.day ≤ 1000000)

/-- The last verdict for a question of a matter. -/
def lastOf (L : List Ver) (m q : List UInt8) : Option Ver := (L.filter fun u => decide (u.matter = m ∧ u.question = q)).getLast?

theorem lastOf_snoc (L : List Ver) (v : Ver) (m q : List UInt8) : lastOf (L ++ [v]) m q = if v.matter = m ∧ v.question = q then some v else lastOf L m q := by
  unfold lastOf
  rw [List.filter_append]
  by_cases h : v.matter = m ∧ v.question = q
  · rw [if_pos h]; simp [h]
  · rw [if_neg h]
    have : [v].filter (fun u => decide (u.matter = m ∧ u.question = q)) = [] := by simp; intro a b; exact h ⟨a, b⟩
    rw [this, List.append_nil]

theorem lastOf_mem {L : List Ver} {m q : List UInt8} {u : Ver} (h : lastOf L m q = some u) : u ∈ L ∧ u.matter = m ∧ u.question = q := by
  unfold lastOf at h
  have := List.mem_of_getLast? h
  simpa using this

theorem lastOf_none {L : List Ver} {m q : List UInt8} : lastOf L m q = none ↔ ∀ u ∈ L, ¬ (u.matter = m ∧ u.question = q) := by
  unfold lastOf
  rw [List.getLast?_eq_none_iff, List.filter_eq_nil_iff]
  simp

def early (L : List Ver) (v : Ver) : Bool := match L.getLast? with
  | some u => decide (v.day < u.day)
  | none => false

/-- The answer of deciding. -/
def decideE (L : List Ver) (v : Ver) : Nat :=
  if valid v = false then 1 else if (L.any fun u => decide (u.id = v.id)) = true then 9
  else if early L v = true then 24
  else match lastOf L v.matter v.question with
    | none => if v.reopens ≠ [] then 11 else 0
    | some u => if u.id ≠ v.reopens then 12 else if u.fin = true then 22 else 0

def next (L : List Ver) (v : Ver) : List Ver := if decideE L v = 0 then L ++ [v] else L

def after (L : List Ver) (l : List Ver) : List Ver := l.foldl next L

def valueOf (L : List Ver) (m q : List UInt8) : Option Int := (lastOf L m q).map (·.value)

def standsB (L : List Ver) (id : List UInt8) : Bool := match L.find? (fun u => decide (u.id = id)) with
  | none => false
  | some u => decide ((lastOf L u.matter u.question).map (·.id) = some id)

/-- Lists that come about by deciding. -/
inductive Good : List Ver → Prop
  | nil : Good []
  | snoc {L v} : Good L → decideE L v = 0 → Good (L ++ [v])

theorem Good.next {L : List Ver} (h : Good L) (v : Ver) : Good (next L v) := by
  unfold Fin.next
  split
  · rename_i he; exact .snoc h he
  · exact h

theorem Good.after {L : List Ver} (h : Good L) : ∀ l, Good (after L l)
  | [] => h
  | v :: l => Good.after (h.next v) l

/-- What a decision asks. -/
structure Ok (L : List Ver) (v : Ver) : Prop where
  valid : valid v = true
  id : ∀ u ∈ L, u.id ≠ v.id
  day : ∀ u, L.getLast? = some u → u.day ≤ v.day
  new : lastOf L v.matter v.question = none → v.reopens = []
  old : ∀ u, lastOf L v.matter v.question = some u → u.id = v.reopens ∧ u.fin = false

theorem ok_iff {L : List Ver} {v : Ver} : decideE L v = 0 ↔ Ok L v := by
  unfold decideE
  constructor
  · intro h
    split at h
    · cases h
    · rename_i h1
      split at h
      · cases h
      · rename_i h2
        split at h
        · cases h
        · rename_i h3
          refine ⟨by simpa using h1, ?_, ?_, ?_, ?_⟩
          · intro u hu he
            apply h2
            rw [List.any_eq_true]
            exact ⟨u, hu, by simpa using he⟩
          · intro u hu
            unfold early at h3
            rw [hu] at h3
            simp at h3
            exact h3
          · intro hn
            rw [hn] at h
            simp only at h
            by_cases hr : v.reopens = []
            · exact hr
            · rw [if_pos hr] at h; cases h
          · intro u hu
            rw [hu] at h
            simp only at h
            by_cases hr : u.id = v.reopens
            · rw [if_neg (by simpa using hr)] at h
              refine ⟨hr, ?_⟩
              cases hf : u.fin
              · rfl
              · rw [hf, if_pos rfl] at h; cases h
            · rw [if_pos hr] at h; cases h
  · rintro ⟨h1, h2, h3, h4, h5⟩
    rw [if_neg (by simp [h1]), if_neg, if_neg]
    · cases hl : lastOf L v.matter v.question with
      | none => simp [h4 hl]
      | some u =>
        obtain ⟨ha, hb⟩ := h5 u hl
        simp [ha, hb]
    · unfold early
      cases hg : L.getLast? with
      | none => simp
      | some u =>
        have := h3 u hg
        simp only [decide_eq_true_eq]
        omega
    · intro h
      rw [List.any_eq_true] at h
      obtain ⟨u, hu, he⟩ := h
      exact h2 u hu (by simpa using he)

theorem Good.valid {L : List Ver} (h : Good L) : ∀ u ∈ L, Fin.valid u = true := by
  induction h with
  | nil => intro u hu; cases hu
  | snoc h he ih =>
    intro u hu
    rcases List.mem_append.1 hu with hu | hu
    · exact ih u hu
    · rw [List.mem_singleton.1 hu]; exact (ok_iff.1 he).valid

theorem Good.ids {L : List Ver} (h : Good L) : (L.map (·.id)).Nodup := by
  induction h with
  | nil => exact List.nodup_nil
  | @snoc L v h he ih =>
    rw [List.map_append, List.nodup_append]
    refine ⟨ih, by simp, ?_⟩
    intro a ha b hb
    simp at hb
    subst hb
    obtain ⟨u, hu, rfl⟩ := List.mem_map.1 ha
    exact (ok_iff.1 he).id u hu

theorem Good.day_last {L : List Ver} (h : Good L) : ∀ u, L.getLast? = some u → ∀ x ∈ L, x.day ≤ u.day := by
  induction h with
  | nil => intro u hu; cases hu
  | @snoc L v h he ih =>
    intro u hu x hx
    simp at hu
    subst hu
    rcases List.mem_append.1 hx with hx | hx
    · cases hg : L.getLast? with
      | none => rw [List.getLast?_eq_none_iff] at hg; rw [hg] at hx; cases hx
      | some y =>
        have h1 := ih y hg x hx
        have h2 := (ok_iff.1 he).day y hg
        omega
    · rw [List.mem_singleton.1 hx]; exact Int.le_refl _

theorem Good.prefix_ {L pre post : List Ver} {v : Ver} (h : Good L) (hL : L = pre ++ v :: post) : Good pre ∧ decideE pre v = 0 := by
  induction h generalizing post with
  | nil => simp at hL
  | @snoc L u h he ih =>
    rcases List.eq_nil_or_concat post with rfl | ⟨post', x, rfl⟩
    · obtain ⟨rfl, h2⟩ := List.append_inj' hL (by simp)
      simp at h2
      subst h2
      exact ⟨h, he⟩
    · have e : pre ++ v :: (post' ++ [x]) = (pre ++ v :: post') ++ [x] := by simp
      rw [List.concat_eq_append, e] at hL
      obtain ⟨h1, -⟩ := List.append_inj' hL (by simp)
      exact ih h1

/-- A final one stays the last for its question. -/
theorem Good.final {L : List Ver} (h : Good L) : ∀ u ∈ L, u.fin = true → lastOf L u.matter u.question = some u := by
  induction h with
  | nil => intro u hu; cases hu
  | @snoc L v h he ih =>
    intro u hu hf
    rw [lastOf_snoc]
    rcases List.mem_append.1 hu with hu | hu
    · have h1 := ih u hu hf
      by_cases hm : v.matter = u.matter ∧ v.question = u.question
      · exfalso
        rw [← hm.1, ← hm.2] at h1
        have := ((ok_iff.1 he).old u h1).2
        rw [hf] at this
        cases this
      · rw [if_neg hm]; exact h1
    · rw [List.mem_singleton.1 hu]; simp

theorem lastOf_some_of_mem {L : List Ver} {u : Ver} (hu : u ∈ L) : ∃ x, lastOf L u.matter u.question = some x := by
  cases h : lastOf L u.matter u.question with
  | none => exact absurd ⟨rfl, rfl⟩ (lastOf_none.1 h u hu)
  | some x => exact ⟨x, rfl⟩

theorem find_of_mem {L : List Ver} (hn : (L.map (·.id)).Nodup) {u : Ver} (hu : u ∈ L) : L.find? (fun x => decide (x.id = u.id)) = some u := by
  induction L with
  | nil => cases hu
  | cons a L ih =>
    simp only [List.map_cons, List.nodup_cons] at hn
    rcases List.mem_cons.1 hu with rfl | hu
    · simp
    · have hne : a.id ≠ u.id := fun e => hn.1 (e ▸ List.mem_map_of_mem hu)
      rw [List.find?_cons_of_neg (by simpa using hne)]
      exact ih hn.2 hu

theorem Good.stands {L : List Ver} (h : Good L) {u : Ver} (hu : u ∈ L) : standsB L u.id = decide (lastOf L u.matter u.question = some u) := by
  unfold standsB
  rw [find_of_mem h.ids hu]
  obtain ⟨x, hx⟩ := lastOf_some_of_mem hu
  simp only [hx, Option.map_some, Option.some.injEq]
  congr 1
  have hxm := (lastOf_mem hx).1
  apply propext
  constructor
  · intro e
    have h1 := find_of_mem h.ids hu
    have h2 := find_of_mem h.ids hxm
    rw [e, h1] at h2
    exact (Option.some.inj h2).symm
  · intro e; rw [e]

theorem after_app (L : List Ver) (l : List Ver) : ∃ ext, after L l = L ++ ext := by
  induction l generalizing L with
  | nil => exact ⟨[], by simp [after]⟩
  | cons v l ih =>
    obtain ⟨e, he⟩ := ih (next L v)
    have : after L (v :: l) = after (next L v) l := rfl
    rw [this, he]
    unfold next
    split
    · exact ⟨v :: e, by simp⟩
    · exact ⟨e, rfl⟩

/-- Decided anew: all are accepted. -/
theorem Good.again {L : List Ver} (h : Good L) : ∀ k, k ≤ L.length → Fin.after [] (L.take k) = L.take k
  | 0, _ => by simp [Fin.after]
  | k + 1, hk => by
    rw [List.take_succ_eq_append_getElem (by omega)]
    unfold Fin.after
    rw [List.foldl_append]
    have := h.again k (by omega)
    unfold Fin.after at this
    rw [this]
    have hp := (h.prefix_ (pre := L.take k) (v := L[k]) (post := L.drop (k + 1)) (by rw [← List.drop_eq_getElem_cons, List.take_append_drop])).2
    simp only [List.foldl_cons, List.foldl_nil]
    unfold Fin.next
    rw [if_pos hp]

/-- Alone: those of one matter. -/
theorem lastOf_filter (L : List Ver) (m q : List UInt8) : lastOf (L.filter fun u => decide (u.matter = m)) m q = lastOf L m q := by
  unfold lastOf
  rw [List.filter_filter]
  congr 1
  apply List.filter_congr
  intro u _
  by_cases h : u.matter = m <;> simp [h]

theorem Good.apart {L : List Ver} (h : Good L) (m : List UInt8) : Good (L.filter fun u => decide (u.matter = m)) := by
  induction h with
  | nil => exact .nil
  | @snoc L v h he ih =>
    rw [List.filter_append]
    by_cases hm : v.matter = m
    · have : [v].filter (fun u => decide (u.matter = m)) = [v] := by simp [hm]
      rw [this]
      refine .snoc ih (ok_iff.2 ?_)
      have ho := ok_iff.1 he
      refine ⟨ho.valid, fun u hu => ho.id u (List.mem_filter.1 hu).1, fun u hu => ?_, fun hn => ?_, fun u hu => ?_⟩
      · have hum := (List.mem_filter.1 (List.mem_of_getLast? hu)).1
        cases hg : L.getLast? with
        | none => rw [List.getLast?_eq_none_iff] at hg; rw [hg] at hum; cases hum
        | some y =>
          have h1 := h.day_last y hg u hum
          have h2 := ho.day y hg
          omega
      · subst hm; rw [lastOf_filter] at hn; exact ho.new hn
      · subst hm; rw [lastOf_filter] at hu; exact ho.old u hu
    · have : [v].filter (fun u => decide (u.matter = m)) = [] := by simp [hm]
      rw [this, List.append_nil]; exact ih
end Go.Fin
