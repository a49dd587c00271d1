/-
  Domains: what is read is valid; the canonical text is read back; tokens apart from places; plain Lean.
-/
import Derived.Test.YtcanaadgcgophaaDoorQFA
set_option linter.unusedVariables false
set_option linter.unusedSimpArgs false
set_option linter.unnecessarySimpa false
set_option maxRecDepth 10000
namespace Go.Fac
open Go.Lexs (Tok lex Like Lx)
open Go.Fo
open Go.Fin (Nm)
/-! ### Valid domains -/
def Good (F : List Fact) : Prop := (∀ f ∈ F, factOk f = true) ∧ (F.map (·.name)).Nodup ∧ F.length ≤ 60
theorem valid_iff (F : List Fact) : validD F = true ↔ Good F := by
  unfold validD Good
  simp only [Bool.and_eq_true, List.all_eq_true, decide_eq_true_eq, and_assoc]
theorem idx_none_iff {F : List Fact} {s : Tx} : idx F s = none ↔ s ∉ F.map (·.name) := by
  unfold idx
  rw [List.findIdx?_eq_none_iff]
  simp only [decide_eq_false_iff_not, List.mem_map, not_exists, not_and]
theorem factP_ok {en : Int} {F : List Fact} {ts : List Tok} {f : Fact} {r : List Tok} (h : factP en F ts = .ok f r) :
    ∃ name ∈ ts, name.kind = 1 ∧ f.name = name.text ∧ idx F f.name = none ∧ F.length ≠ 60 ∧ (f.kind = 1 ∨ f.kind = 2 ∨ f.kind = 3) ∧ ((f.kind = 1 ∧ f.lo = 0 ∧ f.hi = 1) ∨ (f.kind ≠ 1 ∧ 0 ≤ f.lo ∧ f.lo ≤ f.hi ∧ f.hi ≤ 1000000)) := by
  unfold factP at h
  obtain ⟨name, s, h1, h2⟩ := bind_ok h
  obtain ⟨rfl, hk, -⟩ := takeK_ok h1
  split at h2
  · cases h2
  rename_i hidx
  split at h2
  · cases h2
  rename_i hlen
  obtain ⟨word, s2, h3, h4⟩ := bind_ok h2
  split at h4
  · cases h4
  rename_i hkw
  obtain ⟨p, s3, h5, h6⟩ := bind_ok h4
  obtain ⟨q, s4, h7, h8⟩ := bind_ok h6
  cases h8
  have hkk : kindOf word.text = 1 ∨ kindOf word.text = 2 ∨ kindOf word.text = 3 := by
    revert hkw
    unfold kindOf
    (repeat' split) <;> simp
  refine ⟨name, List.mem_cons_self, hk, rfl, by simpa using hidx, hlen, hkk, ?_⟩
  by_cases hk1 : kindOf word.text = 1
  · rw [if_pos hk1] at h5
    cases h5
    exact .inl ⟨hk1, rfl, rfl⟩
  · rw [if_neg hk1] at h5
    unfold spanP at h5
    obtain ⟨lo, s5, h9, h10⟩ := bind_ok h5
    split at h10
    · cases h10
    obtain ⟨to, s6, h11, h12⟩ := bind_ok h10
    obtain ⟨hi, s7, h13, h14⟩ := bind_ok h12
    split at h14
    · cases h14
    rename_i hr
    cases h14
    exact .inr ⟨hk1, by simp only; omega, by simp only; omega, by simp only; omega⟩
theorem factP_good {en : Int} {F : List Fact} {ts : List Tok} {f : Fact} {r : List Tok} (ht : ∀ t ∈ ts, TokOk t) (hF : Good F) (h : factP en F ts = .ok f r) : Good (F ++ [f]) := by
  obtain ⟨name, hm, hk, hn, hi, hl, hkk, hr⟩ := factP_ok h
  have hnm : Nm f.name = true := by rw [hn]; exact (ht name hm).2 hk
  refine ⟨fun g hg => ?_, ?_, ?_⟩
  · rcases List.mem_append.1 hg with hg | hg
    · exact hF.1 g hg
    · rw [List.mem_singleton.1 hg]
      unfold factOk
      rw [hnm, Bool.and_true]
      simp only [Bool.or_eq_true, Bool.and_eq_true, decide_eq_true_eq]
      rcases hr with ⟨h1, h2, h3⟩ | ⟨h1, h2, h3, h4⟩
      · exact .inl ⟨⟨h1, h2⟩, h3⟩
      · exact .inr ⟨⟨⟨by omega, h2⟩, h3⟩, h4⟩
  · rw [List.map_append, List.map_singleton, List.nodup_append]
    refine ⟨hF.2.1, by simp, fun a ha b hb => ?_⟩
    rw [List.mem_singleton.1 hb]
    rintro rfl
    exact idx_none_iff.1 hi ha
  · have := hF.2.2
    simp only [List.length_append, List.length_singleton]
    omega
theorem factsP_good {en : Int} : ∀ (n : Nat) (F G : List Fact) (ts : List Tok), (∀ t ∈ ts, TokOk t) → Good F → factsP en n F ts = .inl G → Good G
  | 0, F, G, ts, ht, hF, h => by cases h; exact hF
  | n + 1, F, G, ts, ht, hF, h => by
    simp only [factsP] at h
    split at h
    · cases h; exact hF
    · cases hf : factP en F ts with
      | bad e2 a2 => rw [hf] at h; cases h
      | ok f r =>
        rw [hf] at h
        exact factsP_good n _ _ _ (fun t h2 => ht t ((factP_ends _ _ _ _ _ hf).subset h2)) (factP_good ht hF hf) h
theorem parseD_valid {t : Tx} {F : List Fact} (h : parseD t = .inl F) : validD F = true := by
  rw [valid_iff]
  unfold parseD at h
  cases hl : lex t with
  | bad e2 a2 => rw [hl] at h; cases h
  | ok ts =>
    rw [hl] at h
    exact factsP_good _ [] _ _ (lex_tok hl).1 ⟨(fun f hf => nomatch hf), List.nodup_nil, by simp⟩ h
/-! ### The canonical text -/
theorem factOk_parts {f : Fact} (h : factOk f = true) : Nm f.name = true ∧ ((f.kind = 1 ∧ f.lo = 0 ∧ f.hi = 1) ∨ ((f.kind = 2 ∨ f.kind = 3) ∧ 0 ≤ f.lo ∧ f.lo ≤ f.hi ∧ f.hi ≤ 1000000)) := by
  unfold factOk at h
  simp only [Bool.or_eq_true, Bool.and_eq_true, decide_eq_true_eq] at h
  refine ⟨h.2, ?_⟩
  rcases h.1 with ⟨⟨h1, h2⟩, h3⟩ | ⟨⟨⟨h1, h2⟩, h3⟩, h4⟩
  · exact .inl ⟨h1, h2, h3⟩
  · exact .inr ⟨h1, h2, h3, h4⟩
/-! ### Reading it -/
/-! ### Tokens apart from places -/
end Go.Fac

set_option linter.unusedVariables false
set_option linter.unusedSimpArgs false
set_option linter.unnecessarySimpa false
set_option maxRecDepth 10000
namespace Go.Fac
open Go.Lexs (Tok lex Like Lx)
open Go.Fo
open Go.Fin (Nm)
/-! ### Small facts -/
theorem factAt_lt {F : List Fact} {i : Nat} (h : i < F.length) : factAt F i = F[i] := by simp [factAt, List.getD, h]
theorem idx_lt' {F : List Fact} {s : Tx} {i : Nat} (h : idx F s = some i) : i < F.length := by
  unfold idx at h
  rw [List.findIdx?_eq_some_iff_getElem] at h
  exact h.1
theorem idx_at {F : List Fact} (h : (F.map (·.name)).Nodup) {i : Nat} (hi : i < F.length) : idx F F[i].name = some i := by
  unfold idx
  rw [List.findIdx?_eq_some_iff_getElem]
  refine ⟨hi, by simp, fun j hj => ?_⟩
  simp only [decide_eq_true_eq]
  intro e
  have h2 := List.pairwise_iff_getElem.1 h j i (by simp; omega) (by simpa using hi) hj
  simp only [List.getElem_map] at h2
  exact h2 e
theorem fitsC_iff : ∀ (F : List Fact) (c : List Int), fitsC F c = true ↔ c.length = F.length ∧ ∀ i, i < F.length → (factAt F i).lo ≤ c.getD i 0 ∧ c.getD i 0 ≤ (factAt F i).hi
  | [], [] => by simp [fitsC]
  | [], z :: c => by simp [fitsC]
  | f :: F, [] => by simp [fitsC]
  | f :: F, z :: c => by
    simp only [fitsC, Bool.and_eq_true, decide_eq_true_eq, fitsC_iff F c, List.length_cons]
    constructor
    · rintro ⟨⟨h1, h2⟩, h3, h4⟩
      refine ⟨by omega, fun i hi => ?_⟩
      cases i with
      | zero => exact ⟨h1, h2⟩
      | succ i => exact h4 i (by omega)
    · rintro ⟨h1, h2⟩
      exact ⟨h2 0 (by omega), by omega, fun i hi => h2 (i + 1) (by omega)⟩
theorem getD_set_eq {α : Type} {l : List α} {i : Nat} {x d : α} (h : i < l.length) : (l.set i x).getD i d = x := by simp [List.getD, h]
theorem getD_set_ne' {α : Type} {l : List α} {i j : Nat} {x d : α} (h : i ≠ j) : (l.set i x).getD j d = l.getD j d := by simp [List.getD, h]
/-! ### Errors and ends -/
def commaP (en : Int) (first : Bool) (ts : List Tok) : Rd Unit := if first then Rd.ok () ts else (takeK en 3 kComma ts).bind fun _ r => .ok () r
theorem commaP_ends (en : Int) (first : Bool) : Ends (commaP en first) := if_ends (ok_ends _) (bind_ends (takeK_ends _ _ _) fun _ => ok_ends _)
def valP (en : Int) (F : List Fact) (seen : List Bool) (name : Tok) (r : List Tok) : Rd (Nat × Int) := match idx F name.text with
  | none => .bad 7 name.pos
  | some i => if seen.getD i false then .bad 9 name.pos else (takeK en 3 kEq r).bind fun _ r => (takeK en 2 [] r).bind fun n r => if (n.num : Int) < (factAt F i).lo ∨ (factAt F i).hi < (n.num : Int) then .bad 10 n.pos else .ok (i, (n.num : Int)) r
theorem itemP_eq (en : Int) (F : List Fact) (seen : List Bool) (first : Bool) (ts : List Tok) : itemP en F seen first ts = (commaP en first ts).bind fun _ r => (takeK en 1 [] r).bind fun name r => valP en F seen name r := rfl
theorem valP_ends (en : Int) (F : List Fact) (seen : List Bool) (name : Tok) : Ends (valP en F seen name) := by
  intro ts x r h
  unfold valP at h
  cases hi : idx F name.text with
  | none => rw [hi] at h; cases h
  | some i =>
    rw [hi] at h
    exact (if_ends (q := seen.getD i false = true) (bad_ends 9 name.pos) (bind_ends (takeK_ends en 3 kEq) fun _ => bind_ends (takeK_ends en 2 []) fun n => if_ends (q := (n.num : Int) < (factAt F i).lo ∨ (factAt F i).hi < (n.num : Int)) (bad_ends 10 n.pos) (ok_ends (i, (n.num : Int))))) _ _ _ h
/-! ### What is read fits -/
theorem itemP_ok {en : Int} {F : List Fact} {seen : List Bool} {first : Bool} {ts : List Tok} {p : Nat × Int} {r : List Tok} (h : itemP en F seen first ts = .ok p r) : p.1 < F.length ∧ seen.getD p.1 false = false ∧ (factAt F p.1).lo ≤ p.2 ∧ p.2 ≤ (factAt F p.1).hi ∧ 0 ≤ p.2 := by
  rw [itemP_eq] at h
  obtain ⟨u, s, h1, h2⟩ := bind_ok h
  obtain ⟨name, s2, h3, h4⟩ := bind_ok h2
  unfold valP at h4
  cases hi : idx F name.text with
  | none => rw [hi] at h4; cases h4
  | some i =>
    rw [hi] at h4
    simp only at h4
    split at h4
    · cases h4
    rename_i hs
    obtain ⟨q, s3, h5, h6⟩ := bind_ok h4
    obtain ⟨n, s4, h7, h8⟩ := bind_ok h6
    split at h8
    · cases h8
    rename_i hr
    cases h8
    simp only
    exact ⟨idx_lt' hi, by simpa using hs, by omega, by omega, by omega⟩
structure Half (F : List Fact) (c : List Int) (seen : List Bool) : Prop where
  hc : c.length = F.length
  hs : seen.length = F.length
  fit : ∀ i, i < F.length → seen.getD i false = true → (factAt F i).lo ≤ c.getD i 0 ∧ c.getD i 0 ≤ (factAt F i).hi
theorem Half.step {F : List Fact} {c : List Int} {seen : List Bool} (h : Half F c seen) {i : Nat} {z : Int} (hi : i < F.length) (h1 : (factAt F i).lo ≤ z) (h2 : z ≤ (factAt F i).hi) : Half F (c.set i z) (seen.set i true) := by
  refine ⟨by simp [h.hc], by simp [h.hs], fun j hj hs => ?_⟩
  by_cases e : i = j
  · subst e
    rw [getD_set_eq (by rw [h.hc]; exact hi)]
    exact ⟨h1, h2⟩
  · rw [getD_set_ne' e] at hs ⊢
    exact h.fit j hj hs
theorem all_getD {l : List Bool} (h : l.all id = true) {i : Nat} (hi : i < l.length) : l.getD i false = true := by
  rw [List.all_eq_true] at h
  have := h l[i] (List.getElem_mem hi)
  simpa [List.getD, hi] using this
theorem itemsP_fit {en : Int} {F : List Fact} : ∀ (n : Nat) (first : Bool) (c d : List Int) (seen : List Bool) (ts : List Tok), Half F c seen → itemsP en F n first c seen ts = .inl d → fitsC F d = true
  | 0, first, c, d, seen, ts, hh, h => by
    simp only [itemsP] at h
    split at h
    · rename_i ha
      cases h
      rw [fitsC_iff]
      exact ⟨hh.hc, fun i hi => hh.fit i hi (all_getD ha (by rw [hh.hs]; exact hi))⟩
    · cases h
  | n + 1, first, c, d, seen, ts, hh, h => by
    simp only [itemsP] at h
    split at h
    · split at h
      · rename_i ha
        cases h
        rw [fitsC_iff]
        exact ⟨hh.hc, fun i hi => hh.fit i hi (all_getD ha (by rw [hh.hs]; exact hi))⟩
      · cases h
    · cases hf : itemP en F seen first ts with
      | bad e2 a2 => rw [hf] at h; cases h
      | ok p r =>
        rw [hf] at h
        obtain ⟨h1, h2, h3, h4, -⟩ := itemP_ok hf
        exact itemsP_fit n _ _ _ _ _ (hh.step h1 h3 h4) h
theorem half_start (F : List Fact) : Half F (List.replicate F.length 0) (List.replicate F.length false) := ⟨by simp, by simp, fun i hi h => by simp [List.getD, hi] at h⟩
theorem parseC_fits {F : List Fact} {t : Tx} {c : List Int} (h : parseC F t = .inl c) : fitsB F c = true := by
  unfold parseC at h
  split at h
  · rename_i hv
    cases hl : lex t with
    | bad e2 a2 => rw [hl] at h; cases h
    | ok ts =>
      rw [hl] at h
      unfold fitsB
      rw [hv, itemsP_fit _ _ _ _ _ _ (half_start F) h]
      rfl
  · cases h
/-! ### Texts of cases -/
theorem fitsB_parts {F : List Fact} {c : List Int} (h : fitsB F c = true) : validD F = true ∧ fitsC F c = true := by
  unfold fitsB at h
  rw [Bool.and_eq_true] at h
  exact h
/-! ### Tokens apart from places -/
end Go.Fac

set_option linter.unusedVariables false
set_option linter.unusedSimpArgs false
set_option linter.unnecessarySimpa false
set_option maxRecDepth 10000
namespace Go.Fac
open Go.Fo
def lessL : List Int → List Int → Bool
  | a :: A, b :: B => if a ≠ b then decide (a < b) else lessL A B
  | _, _ => false
theorem fits_cons {f : Fact} {F : List Fact} {z : Int} {c : List Int} : fitsC (f :: F) (z :: c) = true ↔ f.lo ≤ z ∧ z ≤ f.hi ∧ fitsC F c = true := by
  simp only [fitsC, Bool.and_eq_true, decide_eq_true_eq, and_assoc]
theorem least_fits : ∀ (F : List Fact), (∀ f ∈ F, f.lo ≤ f.hi) → fitsC F (F.map (·.lo)) = true
  | [], h => rfl
  | f :: F, h => by
    rw [List.map_cons]
    exact fits_cons.2 ⟨Int.le_refl _, h f List.mem_cons_self, least_fits F fun g hg => h g (List.mem_cons_of_mem _ hg)⟩
theorem next_fits : ∀ (F : List Fact) (c d : List Int), (∀ f ∈ F, f.lo ≤ f.hi) → fitsC F c = true → nextL F c = some d → fitsC F d = true ∧ lessL c d = true
  | [], c, d, hF, h, hn => by cases c <;> cases hn
  | f :: F, [], d, hF, h, hn => by cases h
  | f :: F, z :: c, d, hF, h, hn => by
    obtain ⟨h1, h2, h3⟩ := fits_cons.1 h
    have hF2 : ∀ g ∈ F, g.lo ≤ g.hi := fun g hg => hF g (List.mem_cons_of_mem _ hg)
    simp only [nextL] at hn
    cases hn2 : nextL F c with
    | some d2 =>
      rw [hn2] at hn
      cases hn
      obtain ⟨h4, h5⟩ := next_fits F c d2 hF2 h3 hn2
      refine ⟨fits_cons.2 ⟨h1, h2, h4⟩, ?_⟩
      simp only [lessL]
      rw [if_neg (by simp)]
      exact h5
    | none =>
      rw [hn2] at hn
      simp only at hn
      split at hn
      · cases hn
        refine ⟨fits_cons.2 ⟨by omega, by omega, least_fits F hF2⟩, ?_⟩
        simp only [lessL]
        rw [if_pos (by omega), decide_eq_true (by omega)]
      · cases hn
/-! ### From behind -/
theorem next_take : ∀ (F : List Fact) (c : List Int) (i : Nat) (d : List Int), c.length = F.length → i ≤ F.length → nextL (F.drop i) (c.drop i) = some d → nextL F c = some (c.take i ++ d)
  | F, c, 0, d, hl, hi, h => by simpa using h
  | [], c, i + 1, d, hl, hi, h => by simp at hi
  | f :: F, [], i + 1, d, hl, hi, h => by simp at hl
  | f :: F, z :: c, i + 1, d, hl, hi, h => by
    simp only [List.drop_succ_cons] at h
    have := next_take F c i d (by simpa using hl) (by simpa using hi) h
    simp only [nextL, this, List.take_succ_cons, List.cons_append]
theorem next_at {F : List Fact} {c : List Int} {i : Nat} (h1 : i < F.length) (h2 : i < c.length) (h : nextL (F.drop (i + 1)) (c.drop (i + 1)) = none) : nextL (F.drop i) (c.drop i) = if c[i] < F[i].hi then some ((c[i] + 1) :: (F.drop (i + 1)).map (·.lo)) else none := by
  rw [List.drop_eq_getElem_cons h1, List.drop_eq_getElem_cons h2]
  simp only [nextL, h]
theorem valid_lohi {F : List Fact} (h : validD F = true) : ∀ f ∈ F, f.lo ≤ f.hi := fun f hf => by
  obtain ⟨-, h1⟩ := factOk_parts (((valid_iff F).1 h).1 f hf)
  omega
end Go.Fac
