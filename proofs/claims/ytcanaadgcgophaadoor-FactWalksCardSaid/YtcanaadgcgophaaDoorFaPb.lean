/-
  Domains: what is read is valid; the canonical text is read back; tokens apart from places; plain Lean.
-/
import Derived.Test.YtcanaadgcgophaaDoorFaPa
set_option linter.unusedVariables false
set_option linter.unusedSimpArgs false
set_option linter.unnecessarySimpa false
set_option maxRecDepth 10000
namespace Go.Fac
open Go.Lexs (Tok lex Like Lx)
open Go.Fo
open Go.Fin (Nm)
/-! ### Valid domains -/
def Good (F : List Fact) : Prop := (∀ f ∈ F, factOk f = true) ∧ (F.map (·.name)).Nodup ∧ F.length ≤ 60
theorem valid_iff (F : List Fact) : validD F = true ↔ Good F := by
  unfold validD Good
  simp only [Bool.and_eq_true, List.all_eq_true, decide_eq_true_eq, and_assoc]
theorem idx_none_iff {F : List Fact} {s : Tx} : idx F s = none ↔ s ∉ F.map (·.name) := by
  unfold idx
  rw [List.findIdx?_eq_none_iff]
  simp only [decide_eq_false_iff_not, List.mem_map, not_exists, not_and]
theorem factP_ok {en : Int} {F : List Fact} {ts : List Tok} {f : Fact} {r : List Tok} (h : factP en F ts = .ok f r) :
    ∃ name ∈ ts, name.kind = 1 ∧ f.name = name.text ∧ idx F f.name = none ∧ F.length ≠ 60 ∧ (f.kind = 1 ∨ f.kind = 2 ∨ f.kind = 3) ∧ ((f.kind = 1 ∧ f.lo = 0 ∧ f.hi = 1) ∨ (f.kind ≠ 1 ∧ 0 ≤ f.lo ∧ f.lo ≤ f.hi ∧ f.hi ≤ 1000000)) := by
  unfold factP at h
  obtain ⟨name, s, h1, h2⟩ := bind_ok h
  obtain ⟨rfl, hk, -⟩ := takeK_ok h1
  split at h2
  · cases h2
  rename_i hidx
  split at h2
  · cases h2
  rename_i hlen
  obtain ⟨word, s2, h3, h4⟩ := bind_ok h2
  split at h4
  · cases h4
  rename_i hkw
  obtain ⟨p, s3, h5, h6⟩ := bind_ok h4
  obtain ⟨q, s4, h7, h8⟩ := bind_ok h6
  cases h8
  have hkk : kindOf word.text = 1 ∨ kindOf word.text = 2 ∨ kindOf word.text = 3 := by
    revert hkw
    unfold kindOf
    (repeat' split) <;> simp
  refine ⟨name, List.mem_cons_self, hk, rfl, by simpa using hidx, hlen, hkk, ?_⟩
  by_cases hk1 : kindOf word.text = 1
  · rw [if_pos hk1] at h5
    cases h5
    exact .inl ⟨hk1, rfl, rfl⟩
  · rw [if_neg hk1] at h5
    unfold spanP at h5
    obtain ⟨lo, s5, h9, h10⟩ := bind_ok h5
    split at h10
    · cases h10
    obtain ⟨to, s6, h11, h12⟩ := bind_ok h10
    obtain ⟨hi, s7, h13, h14⟩ := bind_ok h12
    split at h14
    · cases h14
    rename_i hr
    cases h14
    exact .inr ⟨hk1, by simp only; omega, by simp only; omega, by simp only; omega⟩
theorem factP_good {en : Int} {F : List Fact} {ts : List Tok} {f : Fact} {r : List Tok} (ht : ∀ t ∈ ts, TokOk t) (hF : Good F) (h : factP en F ts = .ok f r) : Good (F ++ [f]) := by
  obtain ⟨name, hm, hk, hn, hi, hl, hkk, hr⟩ := factP_ok h
  have hnm : Nm f.name = true := by rw [hn]; exact (ht name hm).2 hk
  refine ⟨fun g hg => ?_, ?_, ?_⟩
  · rcases List.mem_append.1 hg with hg | hg
    · exact hF.1 g hg
    · rw [List.mem_singleton.1 hg]
      unfold factOk
      rw [hnm, Bool.and_true]
      simp only [Bool.or_eq_true, Bool.and_eq_true, decide_eq_true_eq]
      rcases hr with ⟨h1, h2, h3⟩ | ⟨h1, h2, h3, h4⟩
      · exact .inl ⟨⟨h1, h2⟩, h3⟩
      · exact .inr ⟨⟨⟨by omega, h2⟩, h3⟩, h4⟩
  · rw [List.map_append, List.map_singleton, List.nodup_append]
    refine ⟨hF.2.1, by simp, fun a ha b hb => ?_⟩
    rw [List.mem_singleton.1 hb]
    rintro rfl
    exact idx_none_iff.1 hi ha
  · have := hF.2.2
    simp only [List.length_append, List.length_singleton]
    omega
theorem factsP_good {en : Int} : ∀ (n : Nat) (F G : List Fact) (ts : List Tok), (∀ t ∈ ts, TokOk t) → Good F → factsP en n F ts = .inl G → Good G
  | 0, F, G, ts, ht, hF, h => by cases h; exact hF
  | n + 1, F, G, ts, ht, hF, h => by
    simp only [factsP] at h
    split at h
    · cases h; exact hF
    · cases hf : factP en F ts with
      | bad e2 a2 => rw [hf] at h; cases h
      | ok f r =>
        rw [hf] at h
        exact factsP_good n _ _ _ (fun t h2 => ht t ((factP_ends _ _ _ _ _ hf).subset h2)) (factP_good ht hF hf) h
theorem parseD_valid {t : Tx} {F : List Fact} (h : parseD t = .inl F) : validD F = true := by
  rw [valid_iff]
  unfold parseD at h
  cases hl : lex t with
  | bad e2 a2 => rw [hl] at h; cases h
  | ok ts =>
    rw [hl] at h
    exact factsP_good _ [] _ _ (lex_tok hl).1 ⟨(fun f hf => nomatch hf), List.nodup_nil, by simp⟩ h
/-! ### The canonical text -/
def factT (f : Fact) : List Tok := if f.kind = 1 then [tw f.name, tw kFlag, tp 59] else [tw f.name, tw (kindW f), tn f.lo.toNat, tw kTo, tn f.hi.toNat, tp 59]
theorem factOk_parts {f : Fact} (h : factOk f = true) : Nm f.name = true ∧ ((f.kind = 1 ∧ f.lo = 0 ∧ f.hi = 1) ∨ ((f.kind = 2 ∨ f.kind = 3) ∧ 0 ≤ f.lo ∧ f.lo ≤ f.hi ∧ f.hi ≤ 1000000)) := by
  unfold factOk at h
  simp only [Bool.or_eq_true, Bool.and_eq_true, decide_eq_true_eq] at h
  refine ⟨h.2, ?_⟩
  rcases h.1 with ⟨⟨h1, h2⟩, h3⟩ | ⟨⟨⟨h1, h2⟩, h3⟩, h4⟩
  · exact .inl ⟨h1, h2, h3⟩
  · exact .inr ⟨h1, h2, h3, h4⟩
theorem bd_blank (t : Tx) : ∀ g, Bd g → Bd (32 :: t ++ g) := fun g _ => Bd.of (by decide) _
theorem lxs_end : Lxs [59, 10] [tp 59] := Lxs.app (t := [59]) (u := [10]) (l := [tp 59]) (m := []) (lxs_sym (by decide)) (lxs_feed lxs_nil) fun g _ => Bd.of (by decide) _
theorem lxs_kw {w : Tx} (h : Nm w = true) {t : Tx} {l : List Tok} (ht : Lxs t l) (hb : ∀ g, Bd g → Bd (t ++ g)) : Lxs (32 :: w ++ t) (tw w :: l) := by
  have := (lxs_blank (lxs_name h)).app ht hb
  simpa using this
theorem nm_head {t : Tx} (h : Nm t = true) : ∃ c s, t = c :: s := by
  cases t with
  | nil => exact absurd rfl (nm_ne h)
  | cons c s => exact ⟨c, s, rfl⟩
/-- A line ends: whatever follows may be a word. -/
def LxsE (t : Tx) (l : List Tok) : Prop := ∀ (a : Nat) (g : Tx) (l2 : List Tok), Lx (a + t.length) g l2 none → ∃ l1, Lx a (t ++ g) (l1 ++ l2) none ∧ Like l1 l
theorem lxsE_end {t : Tx} {l : List Tok} (h : Lxs t l) : LxsE (t ++ [10]) l := by
  intro a g l2 hx
  have h10 : Lx (a + t.length) (10 :: g) l2 none := Lx.congr (s1 := g) (a1 := a + t.length + 1) (by simp only [Lexs.skip]; rw [if_pos (by decide)]) (by simp only [List.length_cons]; omega) (hx.cast (by simp; omega) rfl)
  obtain ⟨l1, h1, h2⟩ := h a (10 :: g) l2 (Bd.of (by decide) _) h10
  exact ⟨l1, h1.cast rfl (by simp), h2⟩
theorem LxsE.app {t u : Tx} {l m : List Tok} (h1 : LxsE t l) (h2 : LxsE u m) : LxsE (t ++ u) (l ++ m) := by
  intro a g l2 hx
  obtain ⟨m1, h3, h4⟩ := h2 (a + t.length) g l2 (hx.cast (by simp; omega) rfl)
  obtain ⟨l1, h5, h6⟩ := h1 a (u ++ g) (m1 ++ l2) h3
  exact ⟨l1 ++ m1, h5.cast rfl (by rw [List.append_assoc]) |> fun h => (List.append_assoc l1 m1 l2).symm ▸ h, h6.app h4⟩
/-- A fact's text without the line feed. -/
def factS0 (f : Fact) : Tx := if f.kind = 1 then f.name ++ (32 :: kFlag ++ [59]) else f.name ++ (32 :: kindW f ++ (32 :: decS f.lo.toNat ++ (32 :: kTo ++ (32 :: decS f.hi.toNat ++ [59]))))
theorem factS_0 (f : Fact) : factS f = factS0 f ++ [10] := by
  unfold factS factS0
  split <;> simp
theorem lxs_fact0 {f : Fact} (h : factOk f = true) : Lxs (factS0 f) (factT f) := by
  obtain ⟨hn, hr⟩ := factOk_parts h
  have hend : ∀ g, Bd g → Bd ([59] ++ g) := fun g _ => Bd.of (by decide) _
  have hs : Lxs [59] [tp 59] := lxs_sym (by decide)
  rcases hr with ⟨h1, -, -⟩ | ⟨h1, h2, h3, h4⟩
  · unfold factS0 factT
    rw [if_pos h1, if_pos h1]
    exact Lxs.app (l := [tw f.name]) (lxs_name hn) (lxs_kw (w := kFlag) (by decide) hs hend) (bd_blank _)
  · unfold factS0 factT
    rw [if_neg (by omega), if_neg (by omega)]
    have hkw : Nm (kindW f) = true := by unfold kindW; split <;> decide
    have a1 : Lxs (32 :: decS f.hi.toNat ++ [59]) [tn f.hi.toNat, tp 59] := Lxs.app (l := [tn f.hi.toNat]) (lxs_blank (lxs_num f.hi.toNat (by omega))) hs hend
    have a2 : Lxs (32 :: kTo ++ (32 :: decS f.hi.toNat ++ [59])) (tw kTo :: [tn f.hi.toNat, tp 59]) := lxs_kw (w := kTo) (by decide) a1 (bd_blank _)
    have a3 : Lxs (32 :: decS f.lo.toNat ++ (32 :: kTo ++ (32 :: decS f.hi.toNat ++ [59]))) ([tn f.lo.toNat] ++ (tw kTo :: [tn f.hi.toNat, tp 59])) := Lxs.app (lxs_blank (lxs_num f.lo.toNat (by omega))) a2 (bd_blank _)
    have a4 := lxs_kw hkw a3 (bd_blank _)
    exact Lxs.app (l := [tw f.name]) (lxs_name hn) a4 (bd_blank _)
theorem lxsE_facts : ∀ F : List Fact, (∀ f ∈ F, factOk f = true) → LxsE (F.flatMap factS) (F.flatMap factT)
  | [], _ => fun a g l2 hx => ⟨[], hx, .nil⟩
  | f :: F, h => by
    rw [List.flatMap_cons, List.flatMap_cons, factS_0]
    exact (lxsE_end (lxs_fact0 (h f List.mem_cons_self))).app (lxsE_facts F fun g hg => h g (List.mem_cons_of_mem _ hg))
theorem factS_len {f : Fact} (h : factOk f = true) : (factS f).length ≤ 60 ∧ (factT f).length ≤ 6 := by
  obtain ⟨hn, hr⟩ := factOk_parts h
  have h1 := (nm_ok hn).2.2
  have h2 := decS_len 6 f.lo.toNat (by omega)
  have h3 := decS_len 6 f.hi.toNat (by omega)
  have h4 : (kindW f).length ≤ 6 := by unfold kindW; split <;> decide
  unfold factS factT
  constructor
  · (repeat' split) <;> simp [kFlag, kNumber, kDay, kTo] <;> omega
  · split <;> simp
theorem facts_len : ∀ F : List Fact, (∀ f ∈ F, factOk f = true) → (F.flatMap factS).length ≤ 60 * F.length ∧ (F.flatMap factT).length ≤ 6 * F.length
  | [], _ => by simp
  | f :: F, h => by
    have h1 := factS_len (h f List.mem_cons_self)
    have h2 := facts_len F fun g hg => h g (List.mem_cons_of_mem _ hg)
    simp only [List.flatMap_cons, List.length_append, List.length_cons]
    omega
/-! ### Reading it -/
theorem takeK_hit {en : Int} {k : Nat} {w : Tx} {t u : Tok} {r : List Tok} (h : t.like u) (hk : u.kind = k) (hw : w = [] ∨ u.text = w) : takeK en k w (t :: r) = .ok t r := by
  have hs : seesB k w (t :: r) = true := by
    simp only [seesB, h.1, h.2.1, Bool.and_eq_true, Bool.or_eq_true, decide_eq_true_eq]
    exact ⟨hk, hw⟩
  simp only [takeK]
  rw [if_pos hs]
theorem factP_read {en : Int} {F : List Fact} {f : Fact} (hf : factOk f = true) (hi : f.name ∉ F.map (·.name)) (hl : F.length < 60) {l rest : List Tok} (h : Like l (factT f)) : factP en F (l ++ rest) = .ok f rest := by
  obtain ⟨hn, hr⟩ := factOk_parts hf
  have hidx := idx_none_iff.2 hi
  rcases hr with ⟨h1, h2, h3⟩ | ⟨h1, h2, h3, h4⟩
  · unfold factT at h
    rw [if_pos h1] at h
    obtain ⟨a, r1, rfl, ha, h⟩ := like_cons h
    obtain ⟨b, r2, rfl, hb, h⟩ := like_cons h
    obtain ⟨c, r3, rfl, hc, h⟩ := like_cons h
    cases h
    unfold factP
    rw [List.cons_append, takeK_hit (k := 1) (w := []) ha rfl (.inl rfl)]
    simp only [Rd.bind]
    rw [show a.text = f.name from ha.2.1, hidx, if_neg (by simp), if_neg (by omega), List.cons_append, takeK_hit (k := 1) (w := []) hb rfl (.inl rfl)]
    simp only
    rw [show b.text = kFlag from hb.2.1, show kindOf kFlag = 1 from by decide, if_neg (by decide), if_pos rfl]
    simp only
    rw [List.cons_append, takeK_hit (k := 3) (w := kSemi) hc rfl (.inr rfl)]
    simp only [List.nil_append]
    cases f
    simp only at h1 h2 h3
    subst h1 h2 h3
    rfl
  · unfold factT at h
    rw [if_neg (by omega)] at h
    obtain ⟨a, r1, rfl, ha, h⟩ := like_cons h
    obtain ⟨b, r2, rfl, hb, h⟩ := like_cons h
    obtain ⟨c, r3, rfl, hc, h⟩ := like_cons h
    obtain ⟨d, r4, rfl, hd, h⟩ := like_cons h
    obtain ⟨e, r5, rfl, he, h⟩ := like_cons h
    obtain ⟨g, r6, rfl, hg, h⟩ := like_cons h
    cases h
    have hkk : kindOf (kindW f) = f.kind := by
      unfold kindW
      rcases h1 with h1 | h1
      · rw [if_pos h1, h1]; decide
      · rw [if_neg (by omega), h1]; decide
    unfold factP
    simp only [List.cons_append, List.nil_append]
    rw [takeK_hit (k := 1) (w := []) ha rfl (.inl rfl)]
    simp only [Rd.bind]
    rw [show a.text = f.name from ha.2.1, hidx, if_neg (by simp), if_neg (by omega), takeK_hit (k := 1) (w := []) hb rfl (.inl rfl)]
    simp only
    rw [show b.text = kindW f from hb.2.1, hkk, if_neg (by omega), if_neg (by omega)]
    unfold spanP
    rw [takeK_hit (k := 2) (w := []) hc rfl (.inl rfl)]
    simp only [Rd.bind]
    rw [show c.num = f.lo.toNat from hc.2.2, if_neg (by omega), takeK_hit (k := 1) (w := kTo) hd rfl (.inr rfl)]
    simp only
    rw [takeK_hit (k := 2) (w := []) he rfl (.inl rfl)]
    simp only
    rw [show e.num = f.hi.toNat from he.2.2, if_neg (by omega)]
    simp only
    rw [takeK_hit (k := 3) (w := kSemi) hg rfl (.inr rfl)]
    simp only
    cases f
    simp only at h2 h3 ⊢
    congr 2 <;> omega
theorem factsP_read {en : Int} : ∀ (G F : List Fact) (l : List Tok) (n : Nat), Good (F ++ G) → Like l (G.flatMap factT) → l.length ≤ n → factsP en n F l = .inl (F ++ G)
  | [], F, l, n, hg, h, hn => by
    rw [List.flatMap_nil] at h
    cases h
    cases n <;> simp [factsP]
  | f :: G, F, l, n, hg, h, hn => by
    rw [List.flatMap_cons] at h
    obtain ⟨l1, l2, rfl, h1, h2⟩ := like_app h
    have hf : factOk f = true := hg.1 f (by simp)
    have hnd := hg.2.1
    have hlen := hg.2.2
    rw [List.map_append, List.map_cons, List.nodup_append] at hnd
    have hi : f.name ∉ F.map (·.name) := fun hm => hnd.2.2 _ hm _ List.mem_cons_self rfl
    have hl1 : 0 < l1.length := by
      rw [h1.length]
      unfold factT
      split <;> simp
    cases n with
    | zero => rw [List.length_append] at hn; omega
    | succ n =>
      simp only [factsP]
      rw [List.length_append] at hn
      rw [if_neg (fun e => by rw [List.append_eq_nil_iff] at e; rw [e.1] at hl1; simp at hl1), factP_read hf hi (by rw [List.length_append, List.length_cons] at hlen; omega) h1]
      simp only
      rw [factsP_read G (F ++ [f]) l2 n (by simpa using hg) h2 (by omega)]
      simp
theorem parseD_text {F : List Fact} (h : validD F = true) : parseD (textD F) = .inl F := by
  have hg := (valid_iff F).1 h
  have hlen := facts_len F hg.1
  have h60 := hg.2.2
  obtain ⟨l, h1, h2⟩ := lxsE_facts F hg.1 0 [] [] (.nil rfl)
  rw [List.append_nil, List.append_nil] at h1
  have hll := h2.length
  unfold parseD textD
  rw [if_pos h, lx_lex h1 (by omega) (by omega)]
  exact factsP_read F [] l _ hg h2 (Nat.le_refl _)
theorem textD_inj {F G : List Fact} (hF : validD F = true) (hG : validD G = true) (h : textD F = textD G) : F = G := by
  have h1 := parseD_text hF
  rw [h, parseD_text hG] at h1
  cases h1
  rfl
theorem textD_nil (F : List Fact) : textD F = [] ↔ (validD F = false ∨ F = []) := by
  unfold textD
  cases h : validD F
  · simp
  · rw [if_pos rfl]
    cases F with
    | nil => simp
    | cons f F =>
      have hg := (valid_iff _).1 h
      obtain ⟨c, s, hc⟩ := nm_head (factOk_parts (hg.1 f List.mem_cons_self)).1
      simp only [List.flatMap_cons, Bool.true_eq_false, reduceCtorEq, or_self, iff_false]
      unfold factS
      split <;> simp [hc]
/-! ### Tokens apart from places -/
inductive RdR {α : Type} (R : α → α → Prop) : Rd α → Rd α → Prop
  | ok {x y : α} {r q : List Tok} (hx : R x y) (h : Like r q) : RdR R (.ok x r) (.ok y q)
  | bad {e a b : Int} : RdR R (.bad e a) (.bad e b)
theorem bind_like {α β : Type} {R : α → α → Prop} {S : β → β → Prop} {x x' : Rd α} {f f' : α → List Tok → Rd β} (h : RdR R x x') (hf : ∀ y y', R y y' → ∀ l m, Like l m → RdR S (f y l) (f' y' m)) : RdR S (x.bind f) (x'.bind f') := by
  cases h with
  | ok hx h => exact hf _ _ hx _ _ h
  | bad => exact .bad
theorem takeK_like {en em : Int} (k : Nat) (w : Tx) {l m : List Tok} (h : Like l m) : RdR (fun t u : Tok => t.like u) (takeK en k w l) (takeK em k w m) := by
  cases h with
  | nil => exact .bad
  | cons h h2 =>
    rename_i a b l m
    simp only [takeK]
    rw [show seesB k w (a :: l) = seesB k w (b :: m) by simp only [seesB, h.1, h.2.1]]
    split
    · exact .ok h h2
    · exact .bad
theorem spanP_like {en em : Int} {l m : List Tok} (h : Like l m) : RdR (fun a b => a = b) (spanP en l) (spanP em m) := by
  refine bind_like (takeK_like _ _ h) fun lo lo' hlo l m h => ?_
  rw [hlo.2.2]
  split
  · exact .bad
  · refine bind_like (takeK_like _ _ h) fun to to' hto l m h => bind_like (takeK_like _ _ h) fun hi hi' hhi l m h => ?_
    rw [hhi.2.2]
    split
    · exact .bad
    · exact .ok rfl h
theorem factP_like {en em : Int} (F : List Fact) {l m : List Tok} (h : Like l m) : RdR (fun a b => a = b) (factP en F l) (factP em F m) := by
  refine bind_like (takeK_like _ _ h) fun name name' hn l m h => ?_
  rw [hn.2.1]
  split
  · exact .bad
  split
  · exact .bad
  refine bind_like (takeK_like _ _ h) fun word word' hw l m h => ?_
  rw [hw.2.1]
  split
  · exact .bad
  refine bind_like (R := fun a b => a = b) ?_ fun p p' hp l m h => ?_
  · split
    · exact .ok rfl h
    · exact spanP_like h
  · subst hp
    exact bind_like (takeK_like _ _ h) fun _ _ _ l m h => .ok rfl h
/-- The same domain, or the same error at another place. -/
def PLike {α : Type} (a b : α ⊕ (Int × Int)) : Prop := match a, b with
  | .inl s, .inl t => s = t
  | .inr (e, _), .inr (f, _) => e = f
  | _, _ => False
theorem factsP_like {en em : Int} : ∀ (n : Nat) (F : List Fact) {l m : List Tok}, Like l m → PLike (factsP en n F l) (factsP em n F m)
  | 0, F, l, m, h => rfl
  | n + 1, F, l, m, h => by
    simp only [factsP]
    by_cases hl : l = []
    · subst hl
      cases h
      rw [if_pos rfl, if_pos rfl]
      rfl
    · have hm : m ≠ [] := by rintro rfl; cases h; exact hl rfl
      rw [if_neg hl, if_neg hm]
      have := factP_like (en := en) (em := em) F h
      revert this
      cases factP en F l with
      | bad e a => intro h2; cases hm2 : factP em F m with
        | bad e2 a2 => rw [hm2] at h2; cases h2; exact rfl
        | ok y q => rw [hm2] at h2; cases h2
      | ok x r =>
        intro h2
        cases hm2 : factP em F m with
        | bad e2 a2 => rw [hm2] at h2; cases h2
        | ok y q =>
          rw [hm2] at h2
          cases h2 with
          | ok hx h3 => subst hx; exact factsP_like n _ h3
theorem parseT_like {en em : Int} {l m : List Tok} (h : Like l m) : PLike (parseT en l) (parseT em m) := by
  unfold parseT
  rw [h.length]
  exact factsP_like _ _ h
theorem feed_lex {text : Tx} (hl : text.length ≤ 2000) {l : List Tok} (h : lex text = .ok l) : ∃ m, lex (feed l) = .ok m ∧ Like l m := by
  obtain ⟨l0, hx, e⟩ : ∃ l0, Lx 0 text l0 none ∧ lex text = .ok l0 := by
    rcases Lexs.lex_cases text (by omega) with h1 | ⟨l1, e, p, -, h2⟩
    · exact h1
    · rw [h] at h2; cases h2
  rw [h] at e
  cases e
  have hfl := feed_length hx
  have hll := hx.length
  obtain ⟨m, hm1, hm2⟩ := Lx.feed hx 0 [] [] (.nil rfl)
  rw [List.append_nil, List.append_nil] at hm1
  have hmlen := hm2.length
  exact ⟨m, lx_lex hm1 (by omega) (by omega), hm2⟩
theorem parseD_feed {text : Tx} (hl : text.length ≤ 2000) {l : List Tok} (h : lex text = .ok l) : PLike (parseD text) (parseD (feed l)) := by
  obtain ⟨m, h1, h2⟩ := feed_lex hl h
  unfold parseD
  rw [h, h1]
  exact parseT_like h2
end Go.Fac
