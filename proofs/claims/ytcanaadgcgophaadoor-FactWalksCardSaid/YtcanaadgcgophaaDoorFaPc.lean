/-
  Cases: what is read fits; the canonical text is read back, in whatever order; tokens apart from places; plain Lean.
-/
import Derived.Test.YtcanaadgcgophaaDoorFaPb
set_option linter.unusedVariables false
set_option linter.unusedSimpArgs false
set_option linter.unnecessarySimpa false
set_option maxRecDepth 10000
namespace Go.Fac
open Go.Lexs (Tok lex Like Lx)
open Go.Fo
open Go.Fin (Nm)
/-! ### Small facts -/
theorem factAt_lt {F : List Fact} {i : Nat} (h : i < F.length) : factAt F i = F[i] := by simp [factAt, List.getD, h]
theorem idx_lt' {F : List Fact} {s : Tx} {i : Nat} (h : idx F s = some i) : i < F.length := by
  unfold idx at h
  rw [List.findIdx?_eq_some_iff_getElem] at h
  exact h.1
theorem idx_at {F : List Fact} (h : (F.map (·.name)).Nodup) {i : Nat} (hi : i < F.length) : idx F F[i].name = some i := by
  unfold idx
  rw [List.findIdx?_eq_some_iff_getElem]
  refine ⟨hi, by simp, fun j hj => ?_⟩
  simp only [decide_eq_true_eq]
  intro e
  have h2 := List.pairwise_iff_getElem.1 h j i (by simp; omega) (by simpa using hi) hj
  simp only [List.getElem_map] at h2
  exact h2 e
theorem fitsC_iff : ∀ (F : List Fact) (c : List Int), fitsC F c = true ↔ c.length = F.length ∧ ∀ i, i < F.length → (factAt F i).lo ≤ c.getD i 0 ∧ c.getD i 0 ≤ (factAt F i).hi
  | [], [] => by simp [fitsC]
  | [], z :: c => by simp [fitsC]
  | f :: F, [] => by simp [fitsC]
  | f :: F, z :: c => by
    simp only [fitsC, Bool.and_eq_true, decide_eq_true_eq, fitsC_iff F c, List.length_cons]
    constructor
    · rintro ⟨⟨h1, h2⟩, h3, h4⟩
      refine ⟨by omega, fun i hi => ?_⟩
      cases i with
      | zero => exact ⟨h1, h2⟩
      | succ i => exact h4 i (by omega)
    · rintro ⟨h1, h2⟩
      exact ⟨h2 0 (by omega), by omega, fun i hi => h2 (i + 1) (by omega)⟩
theorem getD_set_eq {α : Type} {l : List α} {i : Nat} {x d : α} (h : i < l.length) : (l.set i x).getD i d = x := by simp [List.getD, h]
theorem getD_set_ne' {α : Type} {l : List α} {i j : Nat} {x d : α} (h : i ≠ j) : (l.set i x).getD j d = l.getD j d := by simp [List.getD, h]
/-! ### Errors and ends -/
def commaP (en : Int) (first : Bool) (ts : List Tok) : Rd Unit := if first then Rd.ok () ts else (takeK en 3 kComma ts).bind fun _ r => .ok () r
theorem commaP_ends (en : Int) (first : Bool) : Ends (commaP en first) := if_ends (ok_ends _) (bind_ends (takeK_ends _ _ _) fun _ => ok_ends _)
theorem commaP_ne (en : Int) (first : Bool) : Ne (commaP en first) := if_ne (ok_ne _) (bind_ne (takeK_ne _ _ _) fun _ => ok_ne _)
theorem commaP_le (en : Int) (first : Bool) : Le en (commaP en first) := if_le (ok_le _ _) (take_le fun _ _ => ok_le _ _)
/-- The value of a fact. -/
def valP (en : Int) (F : List Fact) (seen : List Bool) (name : Tok) (r : List Tok) : Rd (Nat × Int) := match idx F name.text with
  | none => .bad 7 name.pos
  | some i => if seen.getD i false then .bad 9 name.pos else (takeK en 3 kEq r).bind fun _ r => (takeK en 2 [] r).bind fun n r => if (n.num : Int) < (factAt F i).lo ∨ (factAt F i).hi < (n.num : Int) then .bad 10 n.pos else .ok (i, (n.num : Int)) r
theorem itemP_eq (en : Int) (F : List Fact) (seen : List Bool) (first : Bool) (ts : List Tok) : itemP en F seen first ts = (commaP en first ts).bind fun _ r => (takeK en 1 [] r).bind fun name r => valP en F seen name r := rfl
theorem valP_ends (en : Int) (F : List Fact) (seen : List Bool) (name : Tok) : Ends (valP en F seen name) := by
  intro ts x r h
  unfold valP at h
  cases hi : idx F name.text with
  | none => rw [hi] at h; cases h
  | some i =>
    rw [hi] at h
    exact (if_ends (q := seen.getD i false = true) (bad_ends 9 name.pos) (bind_ends (takeK_ends en 3 kEq) fun _ => bind_ends (takeK_ends en 2 []) fun n => if_ends (q := (n.num : Int) < (factAt F i).lo ∨ (factAt F i).hi < (n.num : Int)) (bad_ends 10 n.pos) (ok_ends (i, (n.num : Int))))) _ _ _ h
theorem valP_ne (en : Int) (F : List Fact) (seen : List Bool) (name : Tok) : Ne (valP en F seen name) := by
  intro ts e a h
  unfold valP at h
  cases hi : idx F name.text with
  | none => rw [hi] at h; cases h; decide
  | some i =>
    rw [hi] at h
    exact (if_ne (q := seen.getD i false = true) (bad_ne name.pos (by decide)) (bind_ne (takeK_ne en 3 kEq) fun _ => bind_ne (takeK_ne en 2 []) fun n => if_ne (q := (n.num : Int) < (factAt F i).lo ∨ (factAt F i).hi < (n.num : Int)) (bad_ne n.pos (by decide)) (ok_ne (i, (n.num : Int))))) _ _ _ h
theorem valP_le (en : Int) (F : List Fact) (seen : List Bool) (name : Tok) (hn : (name.pos : Int) ≤ en) : Le en (valP en F seen name) := by
  intro ts e a hl h
  unfold valP at h
  cases hi : idx F name.text with
  | none => rw [hi] at h; cases h; exact hn
  | some i =>
    rw [hi] at h
    exact (if_le (q := seen.getD i false = true) (bad_le 9 hn) (take_le fun _ _ => take_le fun n hn2 => if_le (q := (n.num : Int) < (factAt F i).lo ∨ (factAt F i).hi < (n.num : Int)) (bad_le 10 hn2) (ok_le _ (i, (n.num : Int))))) _ _ _ hl h
theorem itemP_ends (en : Int) (F : List Fact) (seen : List Bool) (first : Bool) : Ends (itemP en F seen first) := bind_ends (commaP_ends en first) fun _ => bind_ends (takeK_ends _ _ _) fun name => valP_ends en F seen name
theorem itemP_ne (en : Int) (F : List Fact) (seen : List Bool) (first : Bool) : Ne (itemP en F seen first) := bind_ne (commaP_ne en first) fun _ => bind_ne (takeK_ne _ _ _) fun name => valP_ne en F seen name
theorem itemP_le (en : Int) (F : List Fact) (seen : List Bool) (first : Bool) : Le en (itemP en F seen first) := bind_le (commaP_le en first) (commaP_ends en first) fun _ => take_le fun name hn => valP_le en F seen name hn
theorem itemsP_ne {en : Int} {F : List Fact} : ∀ (n : Nat) (first : Bool) (c : List Int) (seen : List Bool) (ts : List Tok) (e a : Int), itemsP en F n first c seen ts = .inr (e, a) → e ≠ 0
  | 0, first, c, seen, ts, e, a, h => by
    simp only [itemsP] at h
    split at h
    · cases h
    · cases h; decide
  | n + 1, first, c, seen, ts, e, a, h => by
    simp only [itemsP] at h
    split at h
    · split at h
      · cases h
      · cases h; decide
    · cases hf : itemP en F seen first ts with
      | bad e2 a2 => rw [hf] at h; cases h; exact itemP_ne _ _ _ _ _ _ _ hf
      | ok f r => rw [hf] at h; exact itemsP_ne n _ _ _ _ _ _ h
theorem itemsP_le {en : Int} {F : List Fact} : ∀ (n : Nat) (first : Bool) (c : List Int) (seen : List Bool) (ts : List Tok) (e a : Int), AtLe en ts → itemsP en F n first c seen ts = .inr (e, a) → a ≤ en
  | 0, first, c, seen, ts, e, a, hl, h => by
    simp only [itemsP] at h
    split at h
    · cases h
    · cases h; exact Int.le_refl _
  | n + 1, first, c, seen, ts, e, a, hl, h => by
    simp only [itemsP] at h
    split at h
    · split at h
      · cases h
      · cases h; exact Int.le_refl _
    · cases hf : itemP en F seen first ts with
      | bad e2 a2 => rw [hf] at h; cases h; exact itemP_le _ _ _ _ _ _ _ hl hf
      | ok f r => rw [hf] at h; exact itemsP_le n _ _ _ _ _ _ (hl.suf (itemP_ends _ _ _ _ _ _ _ hf)) h
theorem parseC_ne {F : List Fact} {t : Tx} {e a : Int} (h : parseC F t = .inr (e, a)) : e ≠ 0 := by
  unfold parseC at h
  split at h
  · cases hl : lex t with
    | bad e2 a2 =>
      rw [hl] at h
      cases h
      have := lex_ne hl
      omega
    | ok ts => rw [hl] at h; exact itemsP_ne _ _ _ _ _ _ _ h
  · cases h; decide
theorem parseC_at {F : List Fact} {t : Tx} {e a : Int} (h : parseC F t = .inr (e, a)) : a ≤ t.length := by
  unfold parseC at h
  split at h
  · cases hl : lex t with
    | bad e2 a2 => rw [hl] at h; cases h; exact lex_at.2 _ _ hl
    | ok ts => rw [hl] at h; exact itemsP_le _ _ _ _ _ _ _ (lex_at.1 ts hl) h
  · cases h; omega
/-! ### What is read fits -/
theorem itemP_ok {en : Int} {F : List Fact} {seen : List Bool} {first : Bool} {ts : List Tok} {p : Nat × Int} {r : List Tok} (h : itemP en F seen first ts = .ok p r) : p.1 < F.length ∧ seen.getD p.1 false = false ∧ (factAt F p.1).lo ≤ p.2 ∧ p.2 ≤ (factAt F p.1).hi ∧ 0 ≤ p.2 := by
  rw [itemP_eq] at h
  obtain ⟨u, s, h1, h2⟩ := bind_ok h
  obtain ⟨name, s2, h3, h4⟩ := bind_ok h2
  unfold valP at h4
  cases hi : idx F name.text with
  | none => rw [hi] at h4; cases h4
  | some i =>
    rw [hi] at h4
    simp only at h4
    split at h4
    · cases h4
    rename_i hs
    obtain ⟨q, s3, h5, h6⟩ := bind_ok h4
    obtain ⟨n, s4, h7, h8⟩ := bind_ok h6
    split at h8
    · cases h8
    rename_i hr
    cases h8
    simp only
    exact ⟨idx_lt' hi, by simpa using hs, by omega, by omega, by omega⟩
/-- What is known of a case that is half read. -/
structure Half (F : List Fact) (c : List Int) (seen : List Bool) : Prop where
  hc : c.length = F.length
  hs : seen.length = F.length
  fit : ∀ i, i < F.length → seen.getD i false = true → (factAt F i).lo ≤ c.getD i 0 ∧ c.getD i 0 ≤ (factAt F i).hi
theorem Half.step {F : List Fact} {c : List Int} {seen : List Bool} (h : Half F c seen) {i : Nat} {z : Int} (hi : i < F.length) (h1 : (factAt F i).lo ≤ z) (h2 : z ≤ (factAt F i).hi) : Half F (c.set i z) (seen.set i true) := by
  refine ⟨by simp [h.hc], by simp [h.hs], fun j hj hs => ?_⟩
  by_cases e : i = j
  · subst e
    rw [getD_set_eq (by rw [h.hc]; exact hi)]
    exact ⟨h1, h2⟩
  · rw [getD_set_ne' e] at hs ⊢
    exact h.fit j hj hs
theorem all_getD {l : List Bool} (h : l.all id = true) {i : Nat} (hi : i < l.length) : l.getD i false = true := by
  rw [List.all_eq_true] at h
  have := h l[i] (List.getElem_mem hi)
  simpa [List.getD, hi] using this
theorem itemsP_fit {en : Int} {F : List Fact} : ∀ (n : Nat) (first : Bool) (c d : List Int) (seen : List Bool) (ts : List Tok), Half F c seen → itemsP en F n first c seen ts = .inl d → fitsC F d = true
  | 0, first, c, d, seen, ts, hh, h => by
    simp only [itemsP] at h
    split at h
    · rename_i ha
      cases h
      rw [fitsC_iff]
      exact ⟨hh.hc, fun i hi => hh.fit i hi (all_getD ha (by rw [hh.hs]; exact hi))⟩
    · cases h
  | n + 1, first, c, d, seen, ts, hh, h => by
    simp only [itemsP] at h
    split at h
    · split at h
      · rename_i ha
        cases h
        rw [fitsC_iff]
        exact ⟨hh.hc, fun i hi => hh.fit i hi (all_getD ha (by rw [hh.hs]; exact hi))⟩
      · cases h
    · cases hf : itemP en F seen first ts with
      | bad e2 a2 => rw [hf] at h; cases h
      | ok p r =>
        rw [hf] at h
        obtain ⟨h1, h2, h3, h4, -⟩ := itemP_ok hf
        exact itemsP_fit n _ _ _ _ _ (hh.step h1 h3 h4) h
theorem half_start (F : List Fact) : Half F (List.replicate F.length 0) (List.replicate F.length false) := ⟨by simp, by simp, fun i hi h => by simp [List.getD, hi] at h⟩
theorem parseC_fits {F : List Fact} {t : Tx} {c : List Int} (h : parseC F t = .inl c) : fitsB F c = true := by
  unfold parseC at h
  split at h
  · rename_i hv
    cases hl : lex t with
    | bad e2 a2 => rw [hl] at h; cases h
    | ok ts =>
      rw [hl] at h
      unfold fitsB
      rw [hv, itemsP_fit _ _ _ _ _ _ (half_start F) h]
      rfl
  · cases h
/-! ### Texts of cases -/
def itT (F : List Fact) (p : Nat × Int) : List Tok := [tw (factAt F p.1).name, tp 61, tn p.2.toNat]
def itsT (F : List Fact) : Bool → List (Nat × Int) → List Tok
  | _, [] => []
  | first, p :: ps => (if first then [] else [tp 44]) ++ (itT F p ++ itsT F false ps)
def itS (F : List Fact) (p : Nat × Int) : Tx := itemS (factAt F p.1) p.2
/-- All of them are of the domain and in its ranges. -/
def Fit (F : List Fact) (ps : List (Nat × Int)) : Prop := ∀ p ∈ ps, p.1 < F.length ∧ (factAt F p.1).lo ≤ p.2 ∧ p.2 ≤ (factAt F p.1).hi
theorem good_range {F : List Fact} (hg : Good F) {i : Nat} (hi : i < F.length) : 0 ≤ (factAt F i).lo ∧ (factAt F i).hi ≤ 1000000 ∧ Nm (factAt F i).name = true := by
  rw [factAt_lt hi]
  obtain ⟨h1, h2⟩ := factOk_parts (hg.1 F[i] (List.getElem_mem hi))
  refine ⟨?_, ?_, h1⟩ <;> omega
theorem lxs_it {F : List Fact} (hg : Good F) {p : Nat × Int} (h : p.1 < F.length ∧ (factAt F p.1).lo ≤ p.2 ∧ p.2 ≤ (factAt F p.1).hi) : Lxs (itS F p) (itT F p) := by
  obtain ⟨h1, h2, h3⟩ := good_range hg h.1
  have a1 : Lxs (32 :: decS p.2.toNat) [tn p.2.toNat] := lxs_blank (lxs_num _ (by omega))
  have a2 : Lxs ([61] ++ (32 :: decS p.2.toNat)) ([tp 61] ++ [tn p.2.toNat]) := Lxs.app (lxs_sym (by decide)) a1 (fun g _ => Bd.of (by decide) _)
  have a3 : Lxs (32 :: (61 :: (32 :: decS p.2.toNat))) [tp 61, tn p.2.toNat] := lxs_blank a2
  exact Lxs.app (l := [tw (factAt F p.1).name]) (lxs_name h3) a3 (fun g _ => Bd.of (by decide) _)
theorem lxs_its {F : List Fact} (hg : Good F) : ∀ ps : List (Nat × Int), Fit F ps → Lxs (joinC (ps.map (itS F))) (itsT F true ps)
  | [], _ => lxs_nil
  | [p], h => by
    have := lxs_it hg (h p List.mem_cons_self)
    simpa [joinC, itsT] using this
  | p :: q :: ps, h => by
    have h1 := lxs_it hg (h p List.mem_cons_self)
    have h2 := lxs_its hg (q :: ps) fun x hx => h x (List.mem_cons_of_mem _ hx)
    have h3 : Lxs ([44] ++ (32 :: joinC ((q :: ps).map (itS F)))) ([tp 44] ++ itsT F true (q :: ps)) := Lxs.app (lxs_sym (by decide)) (lxs_blank h2) (fun g _ => Bd.of (by decide) _)
    have h4 := h1.app h3 (fun g _ => Bd.of (by decide) _)
    simpa [joinC, itsT] using h4
theorem its_len (F : List Fact) : ∀ (first : Bool) (ps : List (Nat × Int)), (itsT F first ps).length ≤ 4 * ps.length
  | _, [] => by simp [itsT]
  | first, p :: ps => by
    have := its_len F false ps
    simp only [itsT, itT, List.length_append, List.length_cons, List.length_nil]
    split <;> simp <;> omega
theorem itS_len {F : List Fact} (hg : Good F) {p : Nat × Int} (h : p.1 < F.length ∧ (factAt F p.1).lo ≤ p.2 ∧ p.2 ≤ (factAt F p.1).hi) : (itS F p).length ≤ 40 := by
  obtain ⟨h1, h2, h3⟩ := good_range hg h.1
  have h4 := (nm_ok h3).2.2
  have h5 := decS_len 6 p.2.toNat (by omega)
  simp only [itS, itemS, kEq, List.length_append, List.length_cons, List.length_nil]
  omega
theorem join_len {F : List Fact} (hg : Good F) : ∀ ps : List (Nat × Int), Fit F ps → (joinC (ps.map (itS F))).length ≤ 42 * ps.length
  | [], _ => by simp [joinC]
  | [p], h => by
    have := itS_len hg (h p List.mem_cons_self)
    simp only [List.map_cons, List.map_nil, joinC, List.length_cons, List.length_nil]
    omega
  | p :: q :: ps, h => by
    have h1 := itS_len hg (h p List.mem_cons_self)
    have h2 := join_len hg (q :: ps) fun x hx => h x (List.mem_cons_of_mem _ hx)
    simp only [List.map_cons, joinC, List.length_append, List.length_cons] at h2 ⊢
    omega
theorem itemP_read {en : Int} {F : List Fact} (hg : Good F) {p : Nat × Int} (h : p.1 < F.length ∧ (factAt F p.1).lo ≤ p.2 ∧ p.2 ≤ (factAt F p.1).hi) {seen : List Bool} (hs : seen.getD p.1 false = false) {first : Bool} {l rest : List Tok} (hl : Like l ((if first then [] else [tp 44]) ++ itT F p)) : itemP en F seen first (l ++ rest) = .ok p rest := by
  obtain ⟨h1, h2, h3⟩ := good_range hg h.1
  have hidx : idx F (factAt F p.1).name = some p.1 := by
    rw [factAt_lt h.1]
    exact idx_at hg.2.1 h.1
  have hz : ((p.2.toNat : Nat) : Int) = p.2 := by omega
  have key : ∀ m : List Tok, Like m (itT F p) → ((takeK en 1 [] (m ++ rest)).bind fun name r => valP en F seen name r) = .ok p rest := by
    intro m hm
    obtain ⟨a, r1, rfl, ha, hm⟩ := like_cons hm
    obtain ⟨b, r2, rfl, hb, hm⟩ := like_cons hm
    obtain ⟨c, r3, rfl, hc, hm⟩ := like_cons hm
    cases hm
    simp only [List.cons_append, List.nil_append]
    rw [takeK_hit (k := 1) (w := []) ha rfl (.inl rfl)]
    simp only [Rd.bind]
    unfold valP
    rw [show a.text = (factAt F p.1).name from ha.2.1, hidx]
    simp only
    rw [hs, if_neg (by decide), takeK_hit (k := 3) (w := kEq) hb rfl (.inr rfl)]
    simp only [Rd.bind]
    rw [takeK_hit (k := 2) (w := []) hc rfl (.inl rfl)]
    simp only
    rw [show c.num = p.2.toNat from hc.2.2, hz, if_neg (by omega)]
  rw [itemP_eq]
  unfold commaP
  cases first with
  | true =>
    rw [if_pos rfl, List.nil_append] at hl
    rw [if_pos rfl]
    exact key l hl
  | false =>
    rw [if_neg (by decide)] at hl
    rw [if_neg (by decide)]
    obtain ⟨a, r1, rfl, ha, hl⟩ := like_cons hl
    rw [List.cons_append, takeK_hit (k := 3) (w := kComma) ha rfl (.inr rfl)]
    exact key r1 hl
/-- All items read. -/
theorem itemsP_read {en : Int} {F : List Fact} (hg : Good F) : ∀ (ps : List (Nat × Int)) (n : Nat) (first : Bool) (c : List Int) (seen : List Bool) (l : List Tok), Fit F ps → (ps.map (·.1)).Nodup → (∀ p ∈ ps, seen.getD p.1 false = false) → Like l (itsT F first ps) → l.length ≤ n →
    itemsP en F n first c seen l = if (ps.foldl (fun s p => s.set p.1 true) seen).all id then .inl (ps.foldl (fun c p => c.set p.1 p.2) c) else .inr (11, en)
  | [], n, first, c, seen, l, hf, hnd, hs, hl, hn => by
    simp only [itsT] at hl
    cases hl
    cases n <;> simp [itemsP]
  | p :: ps, n, first, c, seen, l, hf, hnd, hs, hl, hn => by
    simp only [itsT, ← List.append_assoc] at hl
    obtain ⟨l1, l2, rfl, h1, h2⟩ := like_app hl
    have hl1 : 0 < l1.length := by
      rw [h1.length]
      simp [itT]
    rw [List.length_append] at hn
    rw [List.map_cons, List.nodup_cons] at hnd
    cases n with
    | zero => omega
    | succ n =>
      simp only [itemsP]
      rw [if_neg (fun e => by rw [List.append_eq_nil_iff] at e; rw [e.1] at hl1; simp at hl1), itemP_read hg (hf p List.mem_cons_self) (hs p List.mem_cons_self) h1]
      simp only
      rw [itemsP_read hg ps n false _ _ l2 (fun q hq => hf q (List.mem_cons_of_mem _ hq)) hnd.2 (fun q hq => ?_) h2 (by omega)]
      · rfl
      · have hne : p.1 ≠ q.1 := fun e => hnd.1 (e ▸ List.mem_map_of_mem hq)
        rw [getD_set_ne' hne]
        exact hs q (List.mem_cons_of_mem _ hq)
theorem fold_len {α : Type} (x : Nat × Int → α) : ∀ (ps : List (Nat × Int)) (c : List α), (ps.foldl (fun c p => c.set p.1 (x p)) c).length = c.length
  | [], c => rfl
  | p :: ps, c => by simp only [List.foldl_cons]; rw [fold_len x ps]; simp
theorem fold_get {α : Type} (x : Nat × Int → α) (d : List α) : ∀ (ps : List (Nat × Int)) (c : List α), c.length = d.length → (∀ p ∈ ps, d[p.1]? = some (x p)) → ∀ j, (j ∈ ps.map (·.1) ∨ c[j]? = d[j]?) → (ps.foldl (fun c p => c.set p.1 (x p)) c)[j]? = d[j]?
  | [], c, hl, hp, j, hj => by
    rcases hj with hj | hj
    · simp at hj
    · exact hj
  | p :: ps, c, hl, hp, j, hj => by
    simp only [List.foldl_cons]
    refine fold_get x d ps (c.set p.1 (x p)) (by simp [hl]) (fun q hq => hp q (List.mem_cons_of_mem _ hq)) j ?_
    by_cases e : p.1 = j
    · subst e
      refine .inr ?_
      have h1 := hp p List.mem_cons_self
      have h2 : p.1 < d.length := (List.getElem?_eq_some_iff.1 h1).1
      rw [h1, List.getElem?_set_self (by omega)]
    · rcases hj with hj | hj
      · rw [List.map_cons, List.mem_cons] at hj
        exact .inl (hj.resolve_left fun h => e h.symm)
      · rw [List.getElem?_set_ne e]
        exact .inr hj
/-- Items of a case in some order. -/
theorem itemsP_all {en : Int} {F : List Fact} (hg : Good F) {c : List Int} (hc : fitsC F c = true) {ps : List (Nat × Int)} (hps : ps.Perm ((List.range F.length).map fun i => (i, c.getD i 0))) {l : List Tok} (hl : Like l (itsT F true ps)) : caseT en F l = .inl c := by
  obtain ⟨h1, h2⟩ := (fitsC_iff F c).1 hc
  have hmem : ∀ p, p ∈ ps ↔ p.1 < F.length ∧ p.2 = c.getD p.1 0 := fun p => by
    rw [hps.mem_iff]
    simp only [List.mem_map, List.mem_range]
    constructor
    · rintro ⟨i, hi, rfl⟩; exact ⟨hi, rfl⟩
    · rintro ⟨h3, h4⟩; exact ⟨p.1, h3, by rw [← h4]⟩
  have hmap : (ps.map (·.1)).Perm (List.range F.length) := by
    have := hps.map (·.1)
    rw [List.map_map] at this
    simpa [Function.comp_def] using this
  unfold caseT
  rw [itemsP_read hg ps l.length true _ _ l (fun p hp => ?_) (hmap.nodup_iff.2 List.nodup_range) (fun p hp => ?_) hl (Nat.le_refl _)]
  · have hs : ps.foldl (fun (s : List Bool) p => s.set p.1 true) (List.replicate F.length false) = List.replicate F.length true := by
      refine List.ext_getElem? fun j => ?_
      by_cases hj : j < F.length
      · exact fold_get (fun _ => true) (List.replicate F.length true) ps _ (by simp) (fun p hp => by have := ((hmem p).1 hp).1; simp [this]) j (.inl (hmap.mem_iff.2 (List.mem_range.2 hj)))
      · rw [List.getElem?_eq_none (by rw [fold_len (fun _ => true)]; simp; omega), List.getElem?_eq_none (by simp; omega)]
    have hv : ps.foldl (fun (c : List Int) p => c.set p.1 p.2) (List.replicate F.length 0) = c := by
      refine List.ext_getElem? fun j => ?_
      by_cases hj : j < F.length
      · refine fold_get (fun p => p.2) c ps _ (by simp [h1]) (fun p hp => ?_) j (.inl (hmap.mem_iff.2 (List.mem_range.2 hj)))
        obtain ⟨h3, h4⟩ := (hmem p).1 hp
        rw [h4, List.getElem?_eq_getElem (by omega)]
        simp [List.getD, h1, h3]
      · rw [List.getElem?_eq_none (by rw [fold_len (fun p => p.2)]; simp; omega), List.getElem?_eq_none (by omega)]
    rw [hs, hv, if_pos (by simp)]
  · obtain ⟨h3, h4⟩ := (hmem p).1 hp
    rw [h4]
    exact ⟨h3, h2 _ h3⟩
  · have := ((hmem p).1 hp).1
    simp [List.getD, this]
theorem itemsS_eq {F : List Fact} {c : List Int} (h : c.length = F.length) : itemsS F c = ((List.range F.length).map fun i => (i, c.getD i 0)).map (itS F) := by
  unfold itemsS
  refine List.ext_getElem (by simp [h]) fun i h1 h2 => ?_
  simp only [List.length_zipWith, h, Nat.min_self] at h1
  simp only [List.getElem_zipWith, List.getElem_map, List.getElem_range, itS]
  rw [factAt_lt h1]
  simp [List.getD, h, h1]
theorem range_fit {F : List Fact} {c : List Int} (hc : fitsC F c = true) : Fit F ((List.range F.length).map fun i => (i, c.getD i 0)) := fun p hp => by
  obtain ⟨h1, h2⟩ := (fitsC_iff F c).1 hc
  simp only [List.mem_map, List.mem_range] at hp
  obtain ⟨i, hi, rfl⟩ := hp
  exact ⟨hi, h2 i hi⟩
theorem fitsB_parts {F : List Fact} {c : List Int} (h : fitsB F c = true) : validD F = true ∧ fitsC F c = true := by
  unfold fitsB at h
  rw [Bool.and_eq_true] at h
  exact h
theorem lex_its {F : List Fact} (hg : Good F) {ps : List (Nat × Int)} (hf : Fit F ps) (hn : ps.length ≤ 60) : ∃ l, lex (joinC (ps.map (itS F))) = .ok l ∧ Like l (itsT F true ps) := by
  obtain ⟨l, h1, h2⟩ := lxs_its hg ps hf 0 [] [] Bd.nil (.nil rfl)
  rw [List.append_nil, List.append_nil] at h1
  have h3 := h2.length
  have h4 := its_len F true ps
  have h5 := join_len hg ps hf
  exact ⟨l, lx_lex h1 (by omega) (by omega), h2⟩
theorem parseC_text {F : List Fact} {c : List Int} (h : fitsB F c = true) : parseC F (textC F c) = .inl c := by
  obtain ⟨hv, hc⟩ := fitsB_parts h
  have hg := (valid_iff F).1 hv
  have h60 := hg.2.2
  obtain ⟨l, h1, h2⟩ := lex_its hg (range_fit hc) (by simpa using h60)
  unfold parseC textC
  rw [if_pos hv, if_pos h, itemsS_eq ((fitsC_iff F c).1 hc).1, h1]
  exact itemsP_all hg hc (List.Perm.refl _) h2
theorem textC_inj {F : List Fact} {a b : List Int} (ha : fitsB F a = true) (hb : fitsB F b = true) (h : textC F a = textC F b) : a = b := by
  have h1 := parseC_text ha
  rw [h, parseC_text hb] at h1
  cases h1
  rfl
theorem fits_reverse {F : List Fact} {c : List Int} (h : fitsB F c = true) : fitsB F.reverse c.reverse = true := by
  obtain ⟨hv, hc⟩ := fitsB_parts h
  obtain ⟨h1, h2, h3⟩ := (valid_iff F).1 hv
  obtain ⟨h4, h5⟩ := (fitsC_iff F c).1 hc
  unfold fitsB
  rw [Bool.and_eq_true]
  refine ⟨(valid_iff _).2 ⟨fun f hf => h1 f (List.mem_reverse.1 hf), ?_, by simpa using h3⟩, (fitsC_iff _ _).2 ⟨by simp [h4], fun i hi => ?_⟩⟩
  · rw [List.map_reverse]
    exact (List.reverse_perm _).nodup_iff.2 h2
  · rw [List.length_reverse] at hi
    have hj : F.length - 1 - i < F.length := by omega
    have := h5 _ hj
    rw [factAt_lt hj] at this
    rw [factAt_lt (by simpa using hi), List.getElem_reverse]
    simp only [List.getD] at this ⊢
    rw [List.getElem?_reverse (by omega), h4]
    exact this
/-- In the opposite order. -/
theorem parseC_back {F : List Fact} {c : List Int} (h : fitsB F c = true) : parseC F (textC F.reverse c.reverse) = .inl c := by
  obtain ⟨hv, hc⟩ := fitsB_parts h
  have hg := (valid_iff F).1 hv
  have h60 := hg.2.2
  have hlen := ((fitsC_iff F c).1 hc).1
  have hrev : itemsS F.reverse c.reverse = (((List.range F.length).map fun i => (i, c.getD i 0)).reverse).map (itS F) := by
    rw [List.map_reverse, ← itemsS_eq hlen]
    unfold itemsS
    rw [List.reverse_zipWith (by omega)]
  have hfit : Fit F (((List.range F.length).map fun i => (i, c.getD i 0)).reverse) := fun p hp => range_fit hc p (List.mem_reverse.1 hp)
  obtain ⟨l, h1, h2⟩ := lex_its hg hfit (by simpa using h60)
  unfold parseC textC
  rw [if_pos hv, if_pos (fits_reverse h), hrev, h1]
  exact itemsP_all hg hc (List.reverse_perm _) h2
/-! ### Tokens apart from places -/
theorem valP_like {en em : Int} {F : List Fact} {seen : List Bool} {t u : Tok} (htu : t.like u) {l m : List Tok} (h : Like l m) : RdR (fun a b => a = b) (valP en F seen t l) (valP em F seen u m) := by
  unfold valP
  rw [htu.2.1]
  cases idx F u.text with
  | none => exact .bad
  | some i =>
    simp only
    split
    · exact .bad
    · refine bind_like (takeK_like _ _ h) fun _ _ _ l m h => bind_like (takeK_like _ _ h) fun n n' hn l m h => ?_
      rw [hn.2.2]
      split
      · exact .bad
      · exact .ok rfl h
theorem itemP_like {en em : Int} (F : List Fact) (seen : List Bool) (first : Bool) {l m : List Tok} (h : Like l m) : RdR (fun a b => a = b) (itemP en F seen first l) (itemP em F seen first m) := by
  rw [itemP_eq, itemP_eq]
  refine bind_like (R := fun a b => a = b) ?_ fun _ _ _ l m h => bind_like (takeK_like _ _ h) fun t u htu l m h => valP_like htu h
  unfold commaP
  split
  · exact .ok rfl h
  · exact bind_like (takeK_like _ _ h) fun _ _ _ l m h => .ok rfl h
theorem itemsP_like {en em : Int} (F : List Fact) : ∀ (n : Nat) (first : Bool) (c : List Int) (seen : List Bool) {l m : List Tok}, Like l m → PLike (itemsP en F n first c seen l) (itemsP em F n first c seen m)
  | 0, first, c, seen, l, m, h => by
    simp only [itemsP]
    split
    · exact rfl
    · exact rfl
  | n + 1, first, c, seen, l, m, h => by
    simp only [itemsP]
    by_cases hl : l = []
    · subst hl
      cases h
      rw [if_pos rfl, if_pos rfl]
      split
      · exact rfl
      · exact rfl
    · have hm : m ≠ [] := by rintro rfl; cases h; exact hl rfl
      rw [if_neg hl, if_neg hm]
      have := itemP_like (en := en) (em := em) F seen first h
      revert this
      cases itemP en F seen first l with
      | bad e a => intro h2; cases hm2 : itemP em F seen first m with
        | bad e2 a2 => rw [hm2] at h2; cases h2; exact rfl
        | ok y q => rw [hm2] at h2; cases h2
      | ok x r =>
        intro h2
        cases hm2 : itemP em F seen first m with
        | bad e2 a2 => rw [hm2] at h2; cases h2
        | ok y q =>
          rw [hm2] at h2
          cases h2 with
          | ok hx h3 => subst hx; exact itemsP_like F n _ _ _ h3
theorem parseC_feed {F : List Fact} {text : Tx} (hl : text.length ≤ 2000) {l : List Tok} (h : lex text = .ok l) : PLike (parseC F text) (parseC F (feed l)) := by
  obtain ⟨m, h1, h2⟩ := feed_lex hl h
  unfold parseC
  split
  · rw [h, h1]
    simp only
    unfold caseT
    rw [h2.length]
    exact itemsP_like F _ _ _ _ h2
  · exact rfl
end Go.Fac
