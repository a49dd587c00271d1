/-
  The reference's test of names: letter, digit, word, Name.
-/
import Derived.Test.YtbfehpiahmodlaaDoorProg
import Derived.Test.YtbfehpiahmodlaaDoorLB
import Derived.Test.YtbfehpiahmodlaaDoorLX
import Derived.Test.YtbfehpiahmodlaaDoorLD
import Derived.Test.YtbfehpiahmodlaaDoorLE
set_option linter.unusedVariables false
set_option linter.unusedSimpArgs false
set_option linter.unnecessarySimpa false
set_option maxRecDepth 10000
namespace Go.Proofs
open Go Go.Pd Go.Lexs Go.Fin
attribute [local irreducible] OpsL W RetQ OpsQ OpsC

theorem isLetter_iff (c : UInt8) : isLetter c = true ↔ (97 ≤ c.toNat ∧ c.toNat ≤ 122) ∨ (65 ≤ c.toNat ∧ c.toNat ≤ 90) := by
  simp [isLetter, UInt8.le_iff_toNat_le]
theorem isLetter_iff_f (c : UInt8) : isLetter c = false ↔ ¬ ((97 ≤ c.toNat ∧ c.toNat ≤ 122) ∨ (65 ≤ c.toNat ∧ c.toNat ≤ 90)) := by
  rw [← isLetter_iff, Bool.not_eq_true]
theorem isDigit_iff (c : UInt8) : isDigit c = true ↔ (48 ≤ c.toNat ∧ c.toNat ≤ 57) := by
  simp [isDigit, UInt8.le_iff_toNat_le]
theorem isDigit_iff_f (c : UInt8) : isDigit c = false ↔ ¬ (48 ≤ c.toNat ∧ c.toNat ≤ 57) := by
  rw [← isDigit_iff, Bool.not_eq_true]

theorem isWord_or (c : UInt8) : isWord c = (isLetter c || isDigit c || decide (c.toNat = 95)) := by
  cases h1 : isLetter c
  · cases h2 : isDigit c
    · by_cases h3 : c.toNat = 95
      · have : c = 95 := UInt8.toNat_inj.1 h3
        subst this; rfl
      · have hc : c ≠ 95 := fun h => h3 (by rw [h]; rfl)
        unfold isWord cls
        simp [h1, h2, h3, hc]
        repeat' split
        all_goals simp
    · have : cls c = 4 := by simp [cls, h1, h2]
      simp [isWord, this]
  · have : cls c = 3 := by simp [cls, h1]
    simp [isWord, this]

theorem cls3b (c : UInt8) : cls c = 3 ↔ isLetter c = true := by
  constructor
  · intro h
    unfold cls at h
    split at h
    · assumption
    · repeat (split at h; · cases h)
      cases h
  · intro h; simp [cls, h]

end Go.Proofs

/-
  Names, letter by letter: plain.
-/
set_option linter.unusedVariables false
set_option linter.unusedSimpArgs false
set_option linter.unnecessarySimpa false
set_option maxRecDepth 10000
namespace Go.Proofs
open Go Go.Pd Go.Lexs Go.Fin

theorem wd_iff (c : UInt8) : isWord c = true ↔ isLetter c = true ∨ (48 ≤ c.toNat ∧ c.toNat ≤ 57) ∨ c.toNat = 95 := by
  have h95 : c = 95 ↔ c.toNat = 95 := ⟨fun h => by rw [h]; rfl, fun h => UInt8.toNat_inj.1 h⟩
  have hd : isDigit c = true ↔ (48 ≤ c.toNat ∧ c.toNat ≤ 57) := by simp [isDigit, UInt8.le_iff_toNat_le]
  unfold isWord cls
  cases h1 : isLetter c
  · cases h2 : isDigit c
    · rw [h2] at hd
      simp only [Bool.false_eq_true, false_iff] at hd
      by_cases h3 : c.toNat = 95
      · have := h95.2 h3
        subst this
        simp [h1, h2]
      · have hc : c ≠ 95 := fun h => h3 (h95.1 h)
        simp only [h1, h2, hc, Bool.or_false, Bool.false_eq_true, if_false, decide_false, h3, or_false, false_or]
        constructor
        · intro h
          exfalso
          revert h
          repeat' split
          all_goals simp
        · intro h; exact absurd h hd
    · have := hd.1 h2
      simp [h1, h2, this]
  · simp [h1]

theorem lt_iff (c : UInt8) : isLetter c = true ↔ (97 ≤ c.toNat ∧ c.toNat ≤ 122) ∨ (65 ≤ c.toNat ∧ c.toNat ≤ 90) := by
  simp [isLetter, UInt8.le_iff_toNat_le]

/-- What a name's letter must be at its place. -/
def okAt (j : Nat) (c : UInt8) : Prop := isLetter c = true ∨ (j ≠ 0 ∧ isWord c = true)

theorem cls_3 (c : UInt8) : cls c = 3 ↔ isLetter c = true := by
  constructor
  · intro h
    unfold cls at h
    split at h
    · assumption
    · repeat (split at h; · cases h)
      cases h
  · intro h; simp [cls, h]

theorem nm_iff (s : List UInt8) : Nm s = true ↔ (∀ j (hj : j < s.length), okAt j s[j]) ∧ 0 < s.length ∧ s.length ≤ 24 := by
  unfold Nm
  simp only [Bool.and_eq_true, decide_eq_true_eq]
  have hh : ∀ (h0 : 0 < s.length), hd s = 3 ↔ isLetter s[0] = true := fun h0 => by
    cases s with
    | nil => simp at h0
    | cons c s => exact cls_3 c
  constructor
  · rintro ⟨h1, h2, h3, h4⟩
    refine ⟨fun j hj => ?_, h2, h3⟩
    by_cases hj0 : j = 0
    · subst hj0; exact .inl ((hh h2).1 h4)
    · exact .inr ⟨hj0, List.all_eq_true.1 h1 _ (List.getElem_mem hj)⟩
  · rintro ⟨h1, h2, h3⟩
    refine ⟨List.all_eq_true.2 fun c hc => ?_, h2, h3, (hh h2).2 ?_⟩
    · obtain ⟨j, hj, rfl⟩ := List.mem_iff_getElem.1 hc
      rcases h1 j hj with h | ⟨_, h⟩
      · exact (wd_iff _).2 (.inl h)
      · exact h
    · rcases h1 0 h2 with h | ⟨h, _⟩
      · exact h
      · exact absurd rfl h

theorem nm_false {s : List UInt8} {k : Nat} (hk : k < s.length) (h : ¬ okAt k s[k]) : Nm s = false := by
  cases hn : Nm s
  · rfl
  · exact absurd ((nm_iff s).1 hn |>.1 k hk) h
end Go.Proofs

/-
  Formulas in memory.
-/
set_option linter.unusedVariables false
set_option linter.unusedSimpArgs false
set_option linter.unnecessarySimpa false
set_option maxRecDepth 10000
namespace Go.Proofs
open Go Go.Pd Go.Lexs Go.Fin Go.Fo
attribute [local irreducible] OpsL W RetQ OpsQ OpsC

/-- The cells of a formula whose kids lie at kv. -/
def fmL (f : Fm) (kv : Value) : List Value := [.int .i64 f.op, str f.name, .int .i64 f.cmp, .int .i64 f.num, kv]
def kidL (p : Fm × Value) : List Value := fmL p.1 p.2
theorem kidL_len (p : Fm × Value) : (kidL p).length = 5 := rfl

/-- A list of formulas at kv, within the blocks G. -/
inductive KR (w : World) (G : Nat → Prop) : List Fm → Value → Prop
  | mk {ks : List Fm} {kv : Value} (ps : List (Fm × Value)) (he : ps.map (·.1) = ks) (hs : Sl w kv 5 (ps.flatMap kidL)) (hg : ps ≠ [] → Off (fun b => ¬ G b) kv) (h : ∀ p ∈ ps, KR w G p.1.kids p.2) : KR w G ks kv

theorem off_sub {G M : Nat → Prop} {v : Value} (h : Off (fun b => ¬ G b) v) (hd : ∀ b, G b → ¬ M b) : Off M v := by
  cases v with
  | slice a m c =>
    cases a with
    | none => trivial
    | some a => exact hd _ (Classical.not_not.1 h)
  | _ => trivial

theorem sl_updE {M : Nat → Prop} {w w' : World} {v : Value} {k : Nat} {vs : List Value} (h : Sl w v k vs) (e : Upd M w w') (hn : vs ≠ [] → Off M v) : Sl w' v k vs := by
  by_cases hv : vs = []
  · subst hv
    rcases h with h | ⟨a, m, c, h1, h2, h3, h4, h5⟩
    · exact .inl h
    · exact .inr ⟨a, m, c, h1, h2, h3, h4, fun i v hi => by simp at hi⟩
  · exact h.upd e (hn hv)

theorem KR.upd {w w' : World} {G M : Nat → Prop} {ks : List Fm} {kv : Value} (h : KR w G ks kv) (e : Upd M w w') (hd : ∀ b, G b → ¬ M b) : KR w' G ks kv := by
  induction h with
  | mk ps he hs hg _ ih => exact .mk ps he (sl_updE hs e fun hne => off_sub (hg fun h => hne (by rw [h]; rfl)) hd) hg ih
theorem KR.ext {w w' : World} {G : Nat → Prop} {ks : List Fm} {kv : Value} (h : KR w G ks kv) (e : Ext w w') : KR w' G ks kv := h.upd e fun _ _ h => h
theorem KR.heap {w w' : World} {G : Nat → Prop} {ks : List Fm} {kv : Value} (h : KR w G ks kv) (e : To w w' w.heap) : KR w' G ks kv := h.ext (Upd.of_heap e)
theorem KR.mono {w : World} {G G' : Nat → Prop} {ks : List Fm} {kv : Value} (h : KR w G ks kv) (hm : ∀ b, G b → G' b) : KR w G' ks kv := by
  induction h with
  | mk ps he hs hg _ ih => exact .mk ps he hs (fun hp => off_sub (hg hp) fun b hb hn => hn (hm b hb)) ih

theorem KR.nil (w : World) (G : Nat → Prop) : KR w G [] (.slice none 0 0) := .mk [] rfl (.nil _ _) (fun h => absurd rfl h) fun _ h => nomatch h

theorem KR.shape {w : World} {G : Nat → Prop} {ks : List Fm} {kv : Value} (h : KR w G ks kv) : ∃ a c, kv = .slice a ks.length c ∧ ks.length ≤ c := by
  cases h with
  | mk ps he hs hg _ =>
    subst he
    rw [List.length_map]
    exact hs.shape (flat_length kidL_len ps) (by omega)

/-- One kid. -/
theorem KR.at {w : World} {G : Nat → Prop} {ks : List Fm} {a : Option Addr} {m c : Nat} (h : KR w G ks (.slice a m c)) {i : Nat} (hi : i < ks.length) :
    ∃ b o kv, a = some ⟨b, o, none⟩ ∧ Row w b (o + i * 5) (fmL ks[i] kv) ∧ KR w G ks[i].kids kv := by
  cases h with
  | mk ps he hs hg hk =>
    subst he
    rw [List.length_map] at hi
    obtain ⟨a', c', h1, h2⟩ := hs.shape (flat_length kidL_len ps) (by omega)
    cases h1
    obtain ⟨b, o, hp, hr⟩ := hs.at (flat_length kidL_len ps) (by omega) (by omega)
    refine ⟨b, o, ps[i].2, hp, ?_, ?_⟩
    · have := hr.elem kidL_len (k := i) (t := ps[i]) (by simp [hi])
      simp only [List.getElem_map]
      exact this
    · simp only [List.getElem_map]
      exact hk _ (List.getElem_mem hi)
end Go.Proofs

/-
  Formulas: sizes, equality, counting.
-/
set_option linter.unusedVariables false
set_option linter.unusedSimpArgs false
set_option linter.unnecessarySimpa false
set_option maxRecDepth 10000
namespace Go.Proofs
open Go Go.Pd Go.Lexs Go.Fin Go.Fo
attribute [local irreducible] OpsL W RetQ OpsQ OpsC

theorem fmL_one {w : World} {G : Nat → Prop} {f : Fm} {kv : Value} (h : KR w G f.kids kv) : (fmL f kv).all Value.oneCell' = true := by
  obtain ⟨a, c, rfl, -⟩ := h.shape
  simp only [fmL, str_eq]
  rfl

set_option maxHeartbeats 2000000 in
theorem size_calls : ∀ (f : Fm) (w : World) (G : Nat → Prop) (kv : Value), KR w G f.kids kv → cnt f ≤ 1000000 → Calls Tryd.prog 9 #[.agg (fmL f kv).toArray] w (fun e w' => ∃ x, e = .returned x ∧ x = .tuple #[.int .i64 (cnt f : Int), .int .i64 (dep f : Int)] ∧ Ext w w') := by
  refine Fm.ind ?_
  intro f ih w G kv hk hc
  obtain ⟨a, c, rfl, -⟩ := hk.shape
  have hcl := len_cntL f.kids
  have hce := cnt_eq f
  have hde := dep_eq f
  refine calls_of Tryd.func9 rfl Tryd.ntmps9 rfl ?_
  refine wk_seq fun K hK => ?_
  refine wk_reg ?_
  refine o_box (LH.start w (fun _ => False)) [.int .i64 (f).op, str (f).name, .int .i64 (f).cmp, .int .i64 (f).num, .slice a f.kids.length c] rfl rfl rfl ?_
  intro b w1 hb hl
  repeat' (first | refine a_mov ?_ | refine a_asg ?_ | refine a_binN ?_ | refine a_notd ?_ | refine a_notb ?_ | refine a_nilc ?_ | refine a_fa ?_ | refine a_ext ?_ | refine a_lenv ?_ | refine a_lens ?_ | refine a_pick_t ?_ | refine a_pick_f ?_ | refine a_not ?_ | refine a_nilf ?_ | (refine o_nil (hK _ _ ?_); clear hK K) | refine wk_reg ?_ | refine wk_seq fun K hK => ?_ | (refine wk_skip (hK _ _ ?_); clear hK K) | (refine wk_label (hK _ _ ?_); clear hK K) | refine wk_scope ?_ | refine wk_block ?_ | refine wk_cond_t rfl ?_ | refine wk_cond_f rfl ?_ | (refine wk_exit ?_; (repeat (refine blockK_other rfl ?_)); refine blockK_same ?_; try ((repeat ((fail_if_success (refine hK _ _ ?_)); clear hK K)); refine hK _ _ ?_; clear hK K)) | (refine a_bin ?_ ?_ <;> intro _ <;> try (exfalso; omega)) | refine a_ld hl ?_ | (refine a_st hl ?_; clear hl; intro _ hl) | refine a_ix (fun _ => ?_) | fail)
  refine wk_loopH [] rfl (fun i : Nat => [(4, .int .i64 (1 + (cntL (f.kids.take i) : Nat) : Int)), (5, .int .i64 (depL (f.kids.take i) : Nat)), (11, .slice a f.kids.length c), (12, .int .i64 (f.kids.length : Int)), (13, .int .i64 (i : Int))]) (fun i w' => i ≤ f.kids.length ∧ Ext w w') (fun i => f.kids.length - i) 0 ⟨rfl, rfl, rfl, rfl, rfl, trivial⟩ ⟨by omega, hl.done⟩ ?_
  clear hl w1
  rintro i t w1 ⟨hi, he⟩
  by_cases hi1 : i < f.kids.length
  · obtain ⟨bk, ok, kv, hp, hr, hkk⟩ := (hk.ext he).at hi1
    have hck := cnt_kid hi1
    have hdk := depL_snoc (f.kids.take i) f.kids[i]
    have hcs := cntL_snoc (f.kids.take i) f.kids[i]
    rw [← List.take_succ_eq_append_getElem hi1] at hdk hcs
    have hdc := dep_le_cnt f.kids[i]
    have hone := fmL_one hkk
    have ihk := ih f.kids[i] (List.getElem_mem hi1)
    generalize f.kids[i] = k at *
    repeat' (first | refine a_mov ?_ | refine a_asg ?_ | refine a_binN ?_ | refine a_notd ?_ | refine a_notb ?_ | refine a_nilc ?_ | refine a_fa ?_ | refine a_ext ?_ | refine a_lenv ?_ | refine a_lens ?_ | refine a_pick_t ?_ | refine a_pick_f ?_ | refine a_not ?_ | refine a_nilf ?_ | (refine o_nil (hK _ _ ?_); clear hK K) | refine wk_reg ?_ | refine wk_seq fun K hK => ?_ | (refine wk_skip (hK _ _ ?_); clear hK K) | (refine wk_label (hK _ _ ?_); clear hK K) | refine wk_scope ?_ | refine wk_block ?_ | refine wk_cond_t rfl ?_ | refine wk_cond_f rfl ?_ | (refine wk_exit ?_; (repeat (refine blockK_other rfl ?_)); refine blockK_same ?_; try ((repeat ((fail_if_success (refine hK _ _ ?_)); clear hK K)); refine hK _ _ ?_; clear hK K)) | (refine a_bin ?_ ?_ <;> intro _ <;> try (exfalso; omega)) | refine a_ld hl ?_ | (refine a_st hl ?_; clear hl; intro _ hl) | refine a_ix (fun _ => ?_) | refine a_idx (c := 5) i hp ?_ | refine a_all hr ?_)
    refine o_alloc (LH.start w1 (fun _ => False)) [.int .i64 0, .string ⟨#[]⟩, .int .i64 0, .int .i64 0, .slice none 0 0] rfl rfl ?_
    intro b2 w2 hb2 hl
    refine o_putN (us := [.int .i64 (k).op, str (k).name, .int .i64 (k).cmp, .int .i64 (k).num, kv]) hl rfl rfl rfl hone rfl (.all rfl rfl) ?_
    clear hl
    intro w3 hl
    repeat' (first | refine a_mov ?_ | refine a_asg ?_ | refine a_binN ?_ | refine a_notd ?_ | refine a_notb ?_ | refine a_nilc ?_ | refine a_fa ?_ | refine a_ext ?_ | refine a_lenv ?_ | refine a_lens ?_ | refine a_pick_t ?_ | refine a_pick_f ?_ | refine a_not ?_ | refine a_nilf ?_ | (refine o_nil (hK _ _ ?_); clear hK K) | refine wk_reg ?_ | refine wk_seq fun K hK => ?_ | (refine wk_skip (hK _ _ ?_); clear hK K) | (refine wk_label (hK _ _ ?_); clear hK K) | refine wk_scope ?_ | refine wk_block ?_ | refine wk_cond_t rfl ?_ | refine wk_cond_f rfl ?_ | (refine wk_exit ?_; (repeat (refine blockK_other rfl ?_)); refine blockK_same ?_; try ((repeat ((fail_if_success (refine hK _ _ ?_)); clear hK K)); refine hK _ _ ?_; clear hK K)) | (refine a_bin ?_ ?_ <;> intro _ <;> try (exfalso; omega)) | refine a_ld hl ?_ | (refine a_st hl ?_; clear hl; intro _ hl) | refine a_ix (fun _ => ?_) | fail)
    refine a_all (hl.rowL (vs := [.int .i64 (k).op, str (k).name, .int .i64 (k).cmp, .int .i64 (k).num, kv]) 0 0 5 rfl) ?_
    refine o_fn (ihk w3 G kv (hkk.ext hl.done) (by omega)) rfl (fun _ => rfl) rfl ?_
    rintro _ w4 ⟨rfl, he4⟩
    repeat' (first | refine a_mov ?_ | refine a_asg ?_ | refine a_binN ?_ | refine a_notd ?_ | refine a_notb ?_ | refine a_nilc ?_ | refine a_fa ?_ | refine a_ext ?_ | refine a_lenv ?_ | refine a_lens ?_ | refine a_pick_t ?_ | refine a_pick_f ?_ | refine a_not ?_ | refine a_nilf ?_ | (refine o_nil (hK _ _ ?_); clear hK K) | refine wk_reg ?_ | refine wk_seq fun K hK => ?_ | (refine wk_skip (hK _ _ ?_); clear hK K) | (refine wk_label (hK _ _ ?_); clear hK K) | refine wk_scope ?_ | refine wk_block ?_ | refine wk_cond_t rfl ?_ | refine wk_cond_f rfl ?_ | (refine wk_exit ?_; (repeat (refine blockK_other rfl ?_)); refine blockK_same ?_; try ((repeat ((fail_if_success (refine hK _ _ ?_)); clear hK K)); refine hK _ _ ?_; clear hK K)) | (refine a_bin ?_ ?_ <;> intro _ <;> try (exfalso; omega)) | refine a_ld hl ?_ | (refine a_st hl ?_; clear hl; intro _ hl) | refine a_ix (fun _ => ?_) | refine o_max rfl rfl rfl ?_)
    refine o_nil ⟨i + 1, ⟨?_, ?_, rfl, rfl, rfl, trivial⟩, rfl, ⟨hi1, (he.trans hl.done).trans he4⟩, by omega⟩
    · show Value.int .i64 _ = Value.int .i64 _
      congr 1; omega
    · show Value.int .i64 (max _ _) = Value.int .i64 _
      congr 1; omega
  · obtain rfl : i = f.kids.length := by omega
    rw [List.take_of_length_le (Nat.le_refl _)]
    have hdc := dep_le_cnt f
    repeat' (first | refine a_mov ?_ | refine a_asg ?_ | refine a_binN ?_ | refine a_notd ?_ | refine a_notb ?_ | refine a_nilc ?_ | refine a_fa ?_ | refine a_ext ?_ | refine a_lenv ?_ | refine a_lens ?_ | refine a_pick_t ?_ | refine a_pick_f ?_ | refine a_not ?_ | refine a_nilf ?_ | (refine o_nil (hK _ _ ?_); clear hK K) | refine wk_reg ?_ | refine wk_seq fun K hK => ?_ | (refine wk_skip (hK _ _ ?_); clear hK K) | (refine wk_label (hK _ _ ?_); clear hK K) | refine wk_scope ?_ | refine wk_block ?_ | refine wk_cond_t rfl ?_ | refine wk_cond_f rfl ?_ | (refine wk_exit ?_; (repeat (refine blockK_other rfl ?_)); refine blockK_same ?_; try ((repeat ((fail_if_success (refine hK _ _ ?_)); clear hK K)); refine hK _ _ ?_; clear hK K)) | (refine a_bin ?_ ?_ <;> intro _ <;> try (exfalso; omega)) | refine a_ld hl ?_ | (refine a_st hl ?_; clear hl; intro _ hl) | refine a_ix (fun _ => ?_) | fail)
    refine wk_ret (retQ_res [.int .i64 (cnt f : Int), .int .i64 (dep f : Int)] rfl rfl ⟨by decide, ?_, by decide, ?_, trivial⟩ ⟨rfl, he⟩)
    · show Value.int .i64 _ = Value.int .i64 _
      congr 1; omega
    · show Value.int .i64 _ = Value.int .i64 _
      congr 1; omega
set_option maxHeartbeats 2000000 in
theorem count_calls : ∀ (f : Fm) (w : World) (G : Nat → Prop) (kv : Value) (most : Nat), KR w G f.kids kv → most ≤ 1000000 → f.kids.length ≤ 140737488351232 → (∀ k ∈ preL f.kids, k.kids.length ≤ 140737488351232) → Calls Tryd.prog 38 #[.agg (fmL f kv).toArray, .int .i64 (most : Int)] w (fun e w' => ∃ x, e = .returned x ∧ x = .int .i64 ((min (cnt f) (most + 1) : Nat) : Int) ∧ Ext w w') := by
  refine Fm.ind ?_
  intro f ih w G kv most hk hm hlen hlens
  obtain ⟨a, c, rfl, -⟩ := hk.shape
  have hce := cnt_eq f
  refine calls_of Tryd.func38 rfl Tryd.ntmps38 rfl ?_
  refine wk_seq fun K hK => ?_
  refine wk_reg ?_
  refine o_box (LH.start w (fun _ => False)) [.int .i64 (f).op, str (f).name, .int .i64 (f).cmp, .int .i64 (f).num, .slice a f.kids.length c] rfl rfl rfl ?_
  intro b w1 hb hl
  repeat' (first | refine a_mov ?_ | refine a_asg ?_ | refine a_binN ?_ | refine a_notd ?_ | refine a_notb ?_ | refine a_nilc ?_ | refine a_fa ?_ | refine a_ext ?_ | refine a_lenv ?_ | refine a_lens ?_ | refine a_pick_t ?_ | refine a_pick_f ?_ | refine a_not ?_ | refine a_nilf ?_ | (refine o_nil (hK _ _ ?_); clear hK K) | refine wk_reg ?_ | refine wk_seq fun K hK => ?_ | (refine wk_skip (hK _ _ ?_); clear hK K) | (refine wk_label (hK _ _ ?_); clear hK K) | refine wk_scope ?_ | refine wk_block ?_ | refine wk_cond_t rfl ?_ | refine wk_cond_f rfl ?_ | (refine wk_exit ?_; (repeat (refine blockK_other rfl ?_)); refine blockK_same ?_; try ((repeat ((fail_if_success (refine hK _ _ ?_)); clear hK K)); refine hK _ _ ?_; clear hK K)) | (refine a_bin ?_ ?_ <;> intro _ <;> try (exfalso; omega)) | refine a_ld hl ?_ | (refine a_st hl ?_; clear hl; intro _ hl) | refine a_ix (fun _ => ?_) | fail)
  refine wk_loopH [] rfl (fun i : Nat => [(1, .int .i64 (most : Int)), (2, .pointer (some ⟨b, 0, none⟩)), (5, .int .i64 ((min (1 + cntL (f.kids.take i)) (most + 1) : Nat) : Int)), (6, .int .i64 (i : Int))]) (fun i w' => i ≤ f.kids.length ∧ LH w (fun _ => False) w' [(b, Obj.cells ([.int .i64 (f).op, str (f).name, .int .i64 (f).cmp, .int .i64 (f).num, .slice a f.kids.length c] : List Value).toArray 25 (0, 0))]) (fun i => f.kids.length - i) 0 ⟨rfl, rfl, by show Value.int .i64 1 = Value.int .i64 _; congr 1, rfl, trivial⟩ ⟨by omega, hl⟩ ?_
  clear hl w1
  rintro i t w1 ⟨hi, hl⟩
  by_cases hi1 : i < f.kids.length
  · obtain ⟨bk, ok, kv, hp, hr, hkk⟩ := (hk.ext hl.done).at hi1
    have hck := cnt_kid hi1
    have hcs := cntL_snoc (f.kids.take i) f.kids[i]
    rw [← List.take_succ_eq_append_getElem hi1] at hcs
    have hkl : f.kids[i].kids.length ≤ 140737488351232 ∧ ∀ k ∈ preL f.kids[i].kids, k.kids.length ≤ 140737488351232 := by
      have hsub : ∀ x ∈ pre f.kids[i], x ∈ preL f.kids := fun x hx => by
        have h1 := preL_app (f.kids.take (i + 1)) (f.kids.drop (i + 1))
        rw [List.take_append_drop, List.take_succ_eq_append_getElem hi1, preL_snoc] at h1
        rw [h1]
        exact List.mem_append_left _ (List.mem_append_right _ hx)
      rw [pre_eq] at hsub
      exact ⟨hlens _ (hsub _ List.mem_cons_self), fun x hx => hlens x (hsub x (List.mem_cons_of_mem _ hx))⟩
    have ihk := ih f.kids[i] (List.getElem_mem hi1)
    have hcp := cnt_pos f.kids[i]
    have hcl := cntL_take f.kids i
    generalize f.kids[i] = k at *
    by_cases hmm : 1 + cntL (f.kids.take i) ≤ most
    · rw [Nat.min_eq_left (by omega : 1 + cntL (f.kids.take i) ≤ most + 1)]
      repeat' (first | refine a_mov ?_ | refine a_asg ?_ | refine a_binN ?_ | refine a_notd ?_ | refine a_notb ?_ | refine a_nilc ?_ | refine a_fa ?_ | refine a_ext ?_ | refine a_lenv ?_ | refine a_lens ?_ | refine a_pick_t ?_ | refine a_pick_f ?_ | refine a_not ?_ | refine a_nilf ?_ | (refine o_nil (hK _ _ ?_); clear hK K) | refine wk_reg ?_ | refine wk_seq fun K hK => ?_ | (refine wk_skip (hK _ _ ?_); clear hK K) | (refine wk_label (hK _ _ ?_); clear hK K) | refine wk_scope ?_ | refine wk_block ?_ | refine wk_cond_t rfl ?_ | refine wk_cond_f rfl ?_ | (refine wk_exit ?_; (repeat (refine blockK_other rfl ?_)); refine blockK_same ?_; try ((repeat ((fail_if_success (refine hK _ _ ?_)); clear hK K)); refine hK _ _ ?_; clear hK K)) | (refine a_bin ?_ ?_ <;> intro _ <;> try (exfalso; omega)) | refine a_ld hl ?_ | (refine a_st hl ?_; clear hl; intro _ hl) | refine a_ix (fun _ => ?_) | refine a_idx (c := 5) i hp ?_ | refine a_all hr ?_)
      have harg : (most : Int) - ((1 + cntL (f.kids.take i) : Nat) : Int) = ((most - (1 + cntL (f.kids.take i)) : Nat) : Int) := by omega
      rw [harg]
      refine o_fn (ihk w1 G kv (most - (1 + cntL (f.kids.take i))) hkk (by omega) hkl.1 hkl.2) rfl (fun _ => rfl) rfl ?_
      rintro _ w4 ⟨rfl, he4⟩
      repeat' (first | refine a_mov ?_ | refine a_asg ?_ | refine a_binN ?_ | refine a_notd ?_ | refine a_notb ?_ | refine a_nilc ?_ | refine a_fa ?_ | refine a_ext ?_ | refine a_lenv ?_ | refine a_lens ?_ | refine a_pick_t ?_ | refine a_pick_f ?_ | refine a_not ?_ | refine a_nilf ?_ | (refine o_nil (hK _ _ ?_); clear hK K) | refine wk_reg ?_ | refine wk_seq fun K hK => ?_ | (refine wk_skip (hK _ _ ?_); clear hK K) | (refine wk_label (hK _ _ ?_); clear hK K) | refine wk_scope ?_ | refine wk_block ?_ | refine wk_cond_t rfl ?_ | refine wk_cond_f rfl ?_ | (refine wk_exit ?_; (repeat (refine blockK_other rfl ?_)); refine blockK_same ?_; try ((repeat ((fail_if_success (refine hK _ _ ?_)); clear hK K)); refine hK _ _ ?_; clear hK K)) | (refine a_bin ?_ ?_ <;> intro _ <;> try (exfalso; omega)) | refine a_ld hl ?_ | (refine a_st hl ?_; clear hl; intro _ hl) | refine a_ix (fun _ => ?_) | fail)
      refine o_nil ⟨i + 1, ⟨rfl, rfl, ?_, rfl, trivial⟩, rfl, ⟨hi1, hl.ext he4⟩, by omega⟩
      show Value.int .i64 _ = Value.int .i64 _
      congr 1; omega
    · rw [Nat.min_eq_right (by omega : most + 1 ≤ 1 + cntL (f.kids.take i))]
      repeat' (first | refine a_mov ?_ | refine a_asg ?_ | refine a_binN ?_ | refine a_notd ?_ | refine a_notb ?_ | refine a_nilc ?_ | refine a_fa ?_ | refine a_ext ?_ | refine a_lenv ?_ | refine a_lens ?_ | refine a_pick_t ?_ | refine a_pick_f ?_ | refine a_not ?_ | refine a_nilf ?_ | (refine o_nil (hK _ _ ?_); clear hK K) | refine wk_reg ?_ | refine wk_seq fun K hK => ?_ | (refine wk_skip (hK _ _ ?_); clear hK K) | (refine wk_label (hK _ _ ?_); clear hK K) | refine wk_scope ?_ | refine wk_block ?_ | refine wk_cond_t rfl ?_ | refine wk_cond_f rfl ?_ | (refine wk_exit ?_; (repeat (refine blockK_other rfl ?_)); refine blockK_same ?_; try ((repeat ((fail_if_success (refine hK _ _ ?_)); clear hK K)); refine hK _ _ ?_; clear hK K)) | (refine a_bin ?_ ?_ <;> intro _ <;> try (exfalso; omega)) | refine a_ld hl ?_ | (refine a_st hl ?_; clear hl; intro _ hl) | refine a_ix (fun _ => ?_) | fail)
      refine wk_ret (retQ_tmp1 Tryd.results38 (by decide) rfl (by conv => lhs; whnf) ?_)
      refine ⟨?_, hl.done⟩
      congr 1; omega
  · obtain rfl : i = f.kids.length := by omega
    rw [List.take_of_length_le (Nat.le_refl _)]
    repeat' (first | refine a_mov ?_ | refine a_asg ?_ | refine a_binN ?_ | refine a_notd ?_ | refine a_notb ?_ | refine a_nilc ?_ | refine a_fa ?_ | refine a_ext ?_ | refine a_lenv ?_ | refine a_lens ?_ | refine a_pick_t ?_ | refine a_pick_f ?_ | refine a_not ?_ | refine a_nilf ?_ | (refine o_nil (hK _ _ ?_); clear hK K) | refine wk_reg ?_ | refine wk_seq fun K hK => ?_ | (refine wk_skip (hK _ _ ?_); clear hK K) | (refine wk_label (hK _ _ ?_); clear hK K) | refine wk_scope ?_ | refine wk_block ?_ | refine wk_cond_t rfl ?_ | refine wk_cond_f rfl ?_ | (refine wk_exit ?_; (repeat (refine blockK_other rfl ?_)); refine blockK_same ?_; try ((repeat ((fail_if_success (refine hK _ _ ?_)); clear hK K)); refine hK _ _ ?_; clear hK K)) | (refine a_bin ?_ ?_ <;> intro _ <;> try (exfalso; omega)) | refine a_ld hl ?_ | (refine a_st hl ?_; clear hl; intro _ hl) | refine a_ix (fun _ => ?_) | fail)
    refine wk_ret (retQ_tmp1 Tryd.results38 (by decide) rfl (by conv => lhs; whnf) ?_)
    refine ⟨?_, hl.done⟩
    congr 1; omega
end Go.Proofs

/-
  Formulas: are two the same.
-/
set_option linter.unusedVariables false
set_option linter.unusedSimpArgs false
set_option linter.unnecessarySimpa false
set_option maxRecDepth 10000
namespace Go.Proofs
open Go Go.Pd Go.Lexs Go.Fin Go.Fo
attribute [local irreducible] OpsL W RetQ OpsQ OpsC

/-- What a function that compares two formulas answers. -/
def SameC (P : Program) (F : FuncId) (f : Fm) : Prop := ∀ (g : Fm) (w : World) (G G' : Nat → Prop) (kv kv' : Value), KR w G f.kids kv → KR w G' g.kids kv' → f.kids.length ≤ 9223372036854775806 → g.kids.length ≤ 9223372036854775806 → (∀ k ∈ preL f.kids, k.kids.length ≤ 9223372036854775806) → (∀ k ∈ preL g.kids, k.kids.length ≤ 9223372036854775806) →
  Calls P F #[.agg (fmL f kv).toArray, .agg (fmL g kv').toArray] w (fun e w' => ∃ x, e = .returned x ∧ x = .bool (decide (f = g)) ∧ Ext w w')

/-- All lists of kids are short. -/
def Short (ks : List Fm) : Prop := ks.length ≤ 9223372036854775806 ∧ ∀ k ∈ preL ks, k.kids.length ≤ 9223372036854775806

theorem Short.kid {ks : List Fm} (h : Short ks) {i : Nat} (hi : i < ks.length) : Short ks[i].kids := by
  have hsub : ∀ x ∈ pre ks[i], x ∈ preL ks := fun x hx => by
    have h1 := preL_app (ks.take (i + 1)) (ks.drop (i + 1))
    rw [List.take_append_drop, List.take_succ_eq_append_getElem hi, preL_snoc] at h1
    rw [h1]
    exact List.mem_append_left _ (List.mem_append_right _ hx)
  rw [pre_eq] at hsub
  exact ⟨h.2 _ (hsub _ List.mem_cons_self), fun x hx => h.2 x (hsub x (List.mem_cons_of_mem _ hx))⟩

theorem take_eq {α : Type} {a b : List α} {k : Nat} (ha : k < a.length) (hb : k < b.length) (h : a.take k = b.take k) (he : a[k] = b[k]) : a.take (k + 1) = b.take (k + 1) := by
  rw [List.take_succ_eq_append_getElem ha, List.take_succ_eq_append_getElem hb, h, he]

theorem ne_at {α : Type} {a b : List α} {k : Nat} (ha : k < a.length) (hb : k < b.length) (he : a[k] ≠ b[k]) : a ≠ b := by
  rintro rfl
  exact he rfl

theorem fm_dec (f g : Fm) : decide (f = g) = (decide (f.op = g.op) && (decide (f.name = g.name) && (decide (f.cmp = g.cmp) && (decide (f.num = g.num) && decide (f.kids = g.kids))))) := by
  rw [Bool.eq_iff_iff]
  simp only [Bool.and_eq_true, decide_eq_true_eq]
  cases f; cases g
  simp [Fm.op, Fm.name, Fm.cmp, Fm.num, Fm.kids]

set_option maxHeartbeats 2000000 in
theorem refSame_calls : ∀ f : Fm, SameC Tryd.prog 37 f := by
  refine Fm.ind ?_
  intro f ih g w G G' kv kv' hk hk' n1 n2 s1 s2
  have hdec := fm_dec f g
  obtain ⟨a, c, rfl, -⟩ := hk.shape
  obtain ⟨a', c', rfl, -⟩ := hk'.shape
  refine calls_of Tryd.func37 rfl Tryd.ntmps37 rfl ?_
  refine wk_seq fun K hK => ?_
  refine wk_reg ?_
  refine o_box (LH.start w (fun _ => False)) [.int .i64 (f).op, str (f).name, .int .i64 (f).cmp, .int .i64 (f).num, .slice a f.kids.length c] rfl rfl rfl ?_
  intro b1 w1 hb1 hl
  refine o_box hl [.int .i64 (g).op, str (g).name, .int .i64 (g).cmp, .int .i64 (g).num, .slice a' g.kids.length c'] rfl rfl rfl ?_
  clear hl
  intro b2 w2 hb2 hl
  have he := hl.done
  repeat' (first | refine a_mov ?_ | refine a_asg ?_ | refine a_binN ?_ | refine a_notd ?_ | refine a_notb ?_ | refine a_nilc ?_ | refine a_fa ?_ | refine a_ext ?_ | refine a_lenv ?_ | refine a_lens ?_ | refine a_pick_t ?_ | refine a_pick_f ?_ | refine a_not ?_ | refine a_nilf ?_ | (refine o_nil (hK _ _ ?_); clear hK K) | refine wk_reg ?_ | refine wk_seq fun K hK => ?_ | (refine wk_skip (hK _ _ ?_); clear hK K) | (refine wk_label (hK _ _ ?_); clear hK K) | refine wk_scope ?_ | refine wk_block ?_ | refine wk_cond_t rfl ?_ | refine wk_cond_f rfl ?_ | (refine wk_exit ?_; (repeat (refine blockK_other rfl ?_)); refine blockK_same ?_; try ((repeat ((fail_if_success (refine hK _ _ ?_)); clear hK K)); refine hK _ _ ?_; clear hK K)) | (refine a_bin ?_ ?_ <;> intro _ <;> try (exfalso; omega)) | refine a_ld hl ?_ | (refine a_st hl ?_; clear hl; intro _ hl) | refine a_ix (fun _ => ?_) | (refine o_nesT (a := f.name) (b := g.name) rfl rfl rfl ?_ ?_ <;> intro _))
  rotate_right
  · have hab : f.kids.length = g.kids.length := by omega
    have hd2 : decide (f = g) = decide (f.kids = g.kids) := by
      rw [hdec]
      have e1 : f.op = g.op := by omega
      have e2 : f.cmp = g.cmp := by omega
      have e3 : f.num = g.num := by omega
      have e4 : f.name = g.name := by assumption
      rw [e1, e2, e3, e4]
      simp
    refine wk_loopH [] rfl (fun i : Nat => [(2, .pointer (some ⟨b1, 0, none⟩)), (3, .pointer (some ⟨b2, 0, none⟩)), (5, .int .i64 (i : Int))]) (fun i w' => (i ≤ f.kids.length ∧ f.kids.take i = g.kids.take i) ∧ LH w (fun _ => False) w' [(b2, Obj.cells ([.int .i64 (g).op, str (g).name, .int .i64 (g).cmp, .int .i64 (g).num, .slice a' g.kids.length c'] : List Value).toArray 25 (0, 0)), (b1, Obj.cells ([.int .i64 (f).op, str (f).name, .int .i64 (f).cmp, .int .i64 (f).num, .slice a f.kids.length c] : List Value).toArray 25 (0, 0))]) (fun i => f.kids.length - i) 0 ⟨rfl, rfl, rfl, trivial⟩ ⟨⟨by omega, by simp⟩, hl⟩ ?_
    clear hl he
    rintro i t w1 ⟨⟨hi, hpre⟩, hl⟩
    have he := hl.done
    by_cases hi1 : i < f.kids.length
    · have hi2 : i < g.kids.length := by omega
      obtain ⟨bk, ok, kv, hp, hr, hkk⟩ := (hk.ext he).at hi1
      obtain ⟨bl, ol, lv, hp', hr', hll⟩ := (hk'.ext he).at hi2
      have hSk := ih f.kids[i] (List.getElem_mem hi1)
      have hs1 := Short.kid ⟨n1, s1⟩ hi1
      have hs2 := Short.kid ⟨n2, s2⟩ hi2
      have hnx := take_eq hi1 hi2 hpre
      have hne := ne_at hi1 hi2
      generalize f.kids[i] = k at *
      generalize g.kids[i] = l at *
      repeat' (first | refine a_mov ?_ | refine a_asg ?_ | refine a_binN ?_ | refine a_notd ?_ | refine a_notb ?_ | refine a_nilc ?_ | refine a_fa ?_ | refine a_ext ?_ | refine a_lenv ?_ | refine a_lens ?_ | refine a_pick_t ?_ | refine a_pick_f ?_ | refine a_not ?_ | refine a_nilf ?_ | (refine o_nil (hK _ _ ?_); clear hK K) | refine wk_reg ?_ | refine wk_seq fun K hK => ?_ | (refine wk_skip (hK _ _ ?_); clear hK K) | (refine wk_label (hK _ _ ?_); clear hK K) | refine wk_scope ?_ | refine wk_block ?_ | refine wk_cond_t rfl ?_ | refine wk_cond_f rfl ?_ | (refine wk_exit ?_; (repeat (refine blockK_other rfl ?_)); refine blockK_same ?_; try ((repeat ((fail_if_success (refine hK _ _ ?_)); clear hK K)); refine hK _ _ ?_; clear hK K)) | (refine a_bin ?_ ?_ <;> intro _ <;> try (exfalso; omega)) | refine a_ld hl ?_ | (refine a_st hl ?_; clear hl; intro _ hl) | refine a_ix (fun _ => ?_) | fail)
      by_cases hkl : k = l
      · skip
        refine wk_quiet [0, 1, 2, 3, 4, 5, 6, 7, 8, 9, 10, 11] ?_
        repeat' (first | refine q_mov ?_ | refine q_asg ?_ | refine q_fa ?_ | refine q_ext ?_ | refine q_binN ?_ | refine q_notd ?_ | refine q_notb ?_ | refine q_pick_t ?_ | refine q_pick_f ?_ | refine q_nilc ?_ | refine q_skip ?_ | refine q_lens ?_ | refine q_lenv ?_ | refine q_nil ?_ | refine q_ix (fun _ => ?_) | (refine q_bin ?_ ?_ <;> intro _ <;> try (exfalso; omega)) | refine q_ld (fun w_ hw_ => hl.ext hw_) ?_ | refine q_idx (c := 5) i hp ?_ | refine q_idx (c := 5) i hp' ?_ | refine q_all (fun w_ hw_ => hr.ext hw_) ?_ | refine q_all (fun w_ hw_ => hr'.ext hw_) ?_ | (refine q_fn (v := .bool (decide (k = l))) (fun w' hw' => hSk l w' G G' kv lv (hkk.ext hw') (hll.ext hw') hs1.1 hs2.1 hs1.2 hs2.2) ?_; first | rw [decide_eq_true hkl] | rw [decide_eq_false hkl]) | fail)
        intro w2 hw2
        refine hK _ _ ?_
        clear hK K
        repeat' (first | refine a_mov ?_ | refine a_asg ?_ | refine a_binN ?_ | refine a_notd ?_ | refine a_notb ?_ | refine a_nilc ?_ | refine a_fa ?_ | refine a_ext ?_ | refine a_lenv ?_ | refine a_lens ?_ | refine a_pick_t ?_ | refine a_pick_f ?_ | refine a_not ?_ | refine a_nilf ?_ | (refine o_nil (hK _ _ ?_); clear hK K) | refine wk_reg ?_ | refine wk_seq fun K hK => ?_ | (refine wk_skip (hK _ _ ?_); clear hK K) | (refine wk_label (hK _ _ ?_); clear hK K) | refine wk_scope ?_ | refine wk_block ?_ | refine wk_cond_t rfl ?_ | refine wk_cond_f rfl ?_ | (refine wk_exit ?_; (repeat (refine blockK_other rfl ?_)); refine blockK_same ?_; try ((repeat ((fail_if_success (refine hK _ _ ?_)); clear hK K)); refine hK _ _ ?_; clear hK K)) | (refine a_bin ?_ ?_ <;> intro _ <;> try (exfalso; omega)) | refine a_ld hl ?_ | (refine a_st hl ?_; clear hl; intro _ hl) | refine a_ix (fun _ => ?_) | fail)
        exact o_nil ⟨i + 1, ⟨rfl, rfl, rfl, trivial⟩, rfl, ⟨⟨hi1, hnx hkl⟩, hl.ext hw2⟩, by omega⟩
      · skip
        refine wk_quiet [0, 1, 2, 3, 4, 5, 6, 7, 8, 9, 10, 11] ?_
        repeat' (first | refine q_mov ?_ | refine q_asg ?_ | refine q_fa ?_ | refine q_ext ?_ | refine q_binN ?_ | refine q_notd ?_ | refine q_notb ?_ | refine q_pick_t ?_ | refine q_pick_f ?_ | refine q_nilc ?_ | refine q_skip ?_ | refine q_lens ?_ | refine q_lenv ?_ | refine q_nil ?_ | refine q_ix (fun _ => ?_) | (refine q_bin ?_ ?_ <;> intro _ <;> try (exfalso; omega)) | refine q_ld (fun w_ hw_ => hl.ext hw_) ?_ | refine q_idx (c := 5) i hp ?_ | refine q_idx (c := 5) i hp' ?_ | refine q_all (fun w_ hw_ => hr.ext hw_) ?_ | refine q_all (fun w_ hw_ => hr'.ext hw_) ?_ | (refine q_fn (v := .bool (decide (k = l))) (fun w' hw' => hSk l w' G G' kv lv (hkk.ext hw') (hll.ext hw') hs1.1 hs2.1 hs1.2 hs2.2) ?_; first | rw [decide_eq_true hkl] | rw [decide_eq_false hkl]) | fail)
        intro w2 hw2
        refine hK _ _ ?_
        clear hK K
        repeat' (first | refine a_mov ?_ | refine a_asg ?_ | refine a_binN ?_ | refine a_notd ?_ | refine a_notb ?_ | refine a_nilc ?_ | refine a_fa ?_ | refine a_ext ?_ | refine a_lenv ?_ | refine a_lens ?_ | refine a_pick_t ?_ | refine a_pick_f ?_ | refine a_not ?_ | refine a_nilf ?_ | (refine o_nil (hK _ _ ?_); clear hK K) | refine wk_reg ?_ | refine wk_seq fun K hK => ?_ | (refine wk_skip (hK _ _ ?_); clear hK K) | (refine wk_label (hK _ _ ?_); clear hK K) | refine wk_scope ?_ | refine wk_block ?_ | refine wk_cond_t rfl ?_ | refine wk_cond_f rfl ?_ | (refine wk_exit ?_; (repeat (refine blockK_other rfl ?_)); refine blockK_same ?_; try ((repeat ((fail_if_success (refine hK _ _ ?_)); clear hK K)); refine hK _ _ ?_; clear hK K)) | (refine a_bin ?_ ?_ <;> intro _ <;> try (exfalso; omega)) | refine a_ld hl ?_ | (refine a_st hl ?_; clear hl; intro _ hl) | refine a_ix (fun _ => ?_) | fail)
        refine wk_ret (retQ_tmp1 Tryd.results37 (by decide) rfl (by conv => lhs; whnf) ?_)
        exact ⟨by rw [hd2, decide_eq_false (hne hkl)], he.trans hw2⟩
    · have hke : i = f.kids.length := by omega
      rw [hke, List.take_of_length_le (Nat.le_refl _), hab, List.take_of_length_le (Nat.le_refl _)] at hpre
      repeat' (first | refine a_mov ?_ | refine a_asg ?_ | refine a_binN ?_ | refine a_notd ?_ | refine a_notb ?_ | refine a_nilc ?_ | refine a_fa ?_ | refine a_ext ?_ | refine a_lenv ?_ | refine a_lens ?_ | refine a_pick_t ?_ | refine a_pick_f ?_ | refine a_not ?_ | refine a_nilf ?_ | (refine o_nil (hK _ _ ?_); clear hK K) | refine wk_reg ?_ | refine wk_seq fun K hK => ?_ | (refine wk_skip (hK _ _ ?_); clear hK K) | (refine wk_label (hK _ _ ?_); clear hK K) | refine wk_scope ?_ | refine wk_block ?_ | refine wk_cond_t rfl ?_ | refine wk_cond_f rfl ?_ | (refine wk_exit ?_; (repeat (refine blockK_other rfl ?_)); refine blockK_same ?_; try ((repeat ((fail_if_success (refine hK _ _ ?_)); clear hK K)); refine hK _ _ ?_; clear hK K)) | (refine a_bin ?_ ?_ <;> intro _ <;> try (exfalso; omega)) | refine a_ld hl ?_ | (refine a_st hl ?_; clear hl; intro _ hl) | refine a_ix (fun _ => ?_) | fail)
      refine wk_ret (retQ_tmp1 Tryd.results37 (by decide) rfl (by conv => lhs; whnf) ?_)
      exact ⟨by rw [hd2, decide_eq_true hpre], he⟩
  all_goals (refine wk_ret (retQ_tmp1 Tryd.results37 (by decide) rfl (by conv => lhs; whnf) ?_))
  all_goals (refine ⟨?_, he⟩)
  all_goals (rw [decide_eq_false]; rintro rfl; contradiction)
end Go.Proofs

/-
  Formulas: is a formula small (the reference).
-/
set_option linter.unusedVariables false
set_option linter.unusedSimpArgs false
set_option linter.unnecessarySimpa false
set_option maxRecDepth 10000
namespace Go.Proofs
open Go Go.Pd Go.Lexs Go.Fin Go.Fo
attribute [local irreducible] OpsL W RetQ OpsQ OpsC

set_option maxHeartbeats 1000000 in
theorem refSmall_calls (f : Fm) (w : World) (G : Nat → Prop) (kv : Value) (most : Nat) (hk : KR w G f.kids kv) (hm : most ≤ 1000000) (hlen : f.kids.length ≤ 140737488351232) (hlens : ∀ k ∈ preL f.kids, k.kids.length ≤ 140737488351232) :
    Calls Tryd.prog 18 #[.agg (fmL f kv).toArray, .int .i64 (most : Int)] w (fun e w' => ∃ x, e = .returned x ∧ x = .bool (decide (cnt f ≤ most)) ∧ Ext w w') := by
  obtain ⟨a, c, rfl, -⟩ := hk.shape
  refine calls_of Tryd.func18 rfl Tryd.ntmps18 rfl ?_
  refine wk_seq fun K hK => ?_
  refine wk_reg ?_
  refine o_box (LH.start w (fun _ => False)) [.int .i64 (f).op, str (f).name, .int .i64 (f).cmp, .int .i64 (f).num, .slice a f.kids.length c] rfl rfl rfl ?_
  intro b1 w1 hb1 hl
  have he := hl.done
  repeat' (first | refine a_mov ?_ | refine a_asg ?_ | refine a_binN ?_ | refine a_notd ?_ | refine a_notb ?_ | refine a_nilc ?_ | refine a_fa ?_ | refine a_ext ?_ | refine a_lenv ?_ | refine a_lens ?_ | refine a_pick_t ?_ | refine a_pick_f ?_ | refine a_not ?_ | refine a_nilf ?_ | (refine o_nil (hK _ _ ?_); clear hK K) | refine wk_reg ?_ | refine wk_seq fun K hK => ?_ | (refine wk_skip (hK _ _ ?_); clear hK K) | (refine wk_label (hK _ _ ?_); clear hK K) | refine wk_scope ?_ | refine wk_block ?_ | refine wk_cond_t rfl ?_ | refine wk_cond_f rfl ?_ | (refine wk_exit ?_; (repeat (refine blockK_other rfl ?_)); refine blockK_same ?_; try ((repeat ((fail_if_success (refine hK _ _ ?_)); clear hK K)); refine hK _ _ ?_; clear hK K)) | (refine a_bin ?_ ?_ <;> intro _ <;> try (exfalso; omega)) | refine a_ld hl ?_ | (refine a_st hl ?_; clear hl; intro _ hl) | refine a_ix (fun _ => ?_) | refine a_all (hl.rowL (vs := [.int .i64 (f).op, str (f).name, .int .i64 (f).cmp, .int .i64 (f).num, .slice a f.kids.length c]) 0 0 5 rfl) ?_)
  refine a_fn (count_calls f w1 G (.slice a f.kids.length c) most (hk.ext he) hm hlen hlens) ?_
  rintro _ w2 ⟨rfl, he2⟩
  have hmin : (((min (cnt f) (most + 1) : Nat) : Int) ≤ (most : Int)) ↔ cnt f ≤ most := by omega
  generalize min (cnt f) (most + 1) = n at *
  repeat' (first | refine a_mov ?_ | refine a_asg ?_ | refine a_binN ?_ | refine a_notd ?_ | refine a_notb ?_ | refine a_nilc ?_ | refine a_fa ?_ | refine a_ext ?_ | refine a_lenv ?_ | refine a_lens ?_ | refine a_pick_t ?_ | refine a_pick_f ?_ | refine a_not ?_ | refine a_nilf ?_ | (refine o_nil (hK _ _ ?_); clear hK K) | refine wk_reg ?_ | refine wk_seq fun K hK => ?_ | (refine wk_skip (hK _ _ ?_); clear hK K) | (refine wk_label (hK _ _ ?_); clear hK K) | refine wk_scope ?_ | refine wk_block ?_ | refine wk_cond_t rfl ?_ | refine wk_cond_f rfl ?_ | (refine wk_exit ?_; (repeat (refine blockK_other rfl ?_)); refine blockK_same ?_; try ((repeat ((fail_if_success (refine hK _ _ ?_)); clear hK K)); refine hK _ _ ?_; clear hK K)) | (refine a_bin ?_ ?_ <;> intro _ <;> try (exfalso; omega)) | refine a_ld hl ?_ | (refine a_st hl ?_; clear hl; intro _ hl) | refine a_ix (fun _ => ?_) | fail)
  all_goals (refine wk_ret (retQ_tmp1 Tryd.results18 (by decide) rfl (by conv => lhs; whnf) ?_))
  all_goals refine ⟨congrArg Value.bool ?_, he.trans he2⟩
  all_goals first | rfl | (rw [decide_eq_true]; omega) | (rw [decide_eq_false]; omega) | (rw [decide_eq_decide]; exact hmin)
end Go.Proofs

/-
  Formulas: lists of formulas anywhere in memory.
-/
set_option linter.unusedVariables false
set_option linter.unusedSimpArgs false
set_option linter.unnecessarySimpa false
set_option maxRecDepth 10000
namespace Go.Pd
theorem LH.add {w0 w : World} {M : Nat → Prop} {l : List (Nat × Obj)} {b : Nat} {o : Obj} (h : LH w0 M w l) (hb : w.heap[b]? = some o) (hf : w0.heap.size ≤ b) (hn : b ∉ l.map (·.1)) : LH w0 M w ((b, o) :: l) := by
  refine ⟨h.upd, fun p hp => ?_, fun p hp => ?_, List.nodup_cons.2 ⟨hn, h.nd⟩⟩
  · rcases List.mem_cons.1 hp with rfl | hp
    · exact hb
    · exact h.own p hp
  · rcases List.mem_cons.1 hp with rfl | hp
    · exact .inl hf
    · exact h.fresh p hp
end Go.Pd
namespace Go.Fo
theorem cntL_mem {ks : List Fm} {k : Fm} (h : k ∈ ks) : cnt k ≤ cntL ks := by
  induction ks with
  | nil => cases h
  | cons x ks ih =>
    simp only [cntL]
    rcases List.mem_cons.1 h with rfl | h
    · omega
    · have := ih h; omega
theorem kids_le (f : Fm) : f.kids.length < cnt f := by have := len_cntL f.kids; rw [cnt_eq]; omega
mutual
theorem pre_cnt : ∀ (f : Fm), ∀ x ∈ pre f, cnt x ≤ cnt f
  | .node o s c n ks => by
    intro x hx
    simp only [pre, List.mem_cons] at hx
    rcases hx with rfl | hx
    · exact Nat.le_refl _
    · have := preL_cnt ks x hx; simp only [cnt]; omega
theorem preL_cnt : ∀ (ks : List Fm), ∀ x ∈ preL ks, cnt x ≤ cntL ks
  | [] => by intro x hx; simp [preL] at hx
  | k :: ks => by
    intro x hx
    simp only [preL, List.mem_append] at hx
    simp only [cntL]
    rcases hx with hx | hx
    · have := pre_cnt k x hx; omega
    · have := preL_cnt ks x hx; omega
end
end Go.Fo
namespace Go.Proofs
open Go Go.Pd Go.Lexs Go.Fin Go.Fo
attribute [local irreducible] OpsL W RetQ OpsQ OpsC

theorem short_of {f : Fm} (h : cnt f ≤ 1000000) : Short f.kids := by
  refine ⟨by have := kids_le f; omega, fun k hk => ?_⟩
  have h1 := preL_cnt f.kids k hk
  have h2 := kids_le k
  have h3 := cnt_eq f
  omega

theorem kids_one {w : World} {G : Nat → Prop} : ∀ (ps : List (Fm × Value)), (∀ p ∈ ps, KR w G p.1.kids p.2) → (ps.flatMap kidL).all Value.oneCell' = true
  | [], _ => rfl
  | p :: ps, h => by
    rw [List.flatMap_cons, List.all_append, kids_one ps fun q hq => h q (List.mem_cons_of_mem _ hq)]
    rw [show (kidL p).all Value.oneCell' = true from fmL_one (h p List.mem_cons_self)]
    rfl

theorem KR.pairs {w : World} {G : Nat → Prop} {ks : List Fm} {kv : Value} (h : KR w G ks kv) : ∃ ps : List (Fm × Value), ps.map (·.1) = ks ∧ Sl w kv 5 (ps.flatMap kidL) ∧ ∀ p ∈ ps, KR w G p.1.kids p.2 := by
  cases h with
  | mk ps he hs hg hk => exact ⟨ps, he, hs, hk⟩
theorem kidL_flat (ps : List (Fm × Value)) : (ps.flatMap kidL).length = ps.length * 5 := flat_length kidL_len ps
theorem KR.empty {w w' : World} {G G' : Nat → Prop} {kv : Value} (h : KR w G [] kv) (hm : ∀ b, G b → G' b) : KR w' G' [] kv := by
  cases h with
  | mk ps he hs hg hk =>
    obtain rfl : ps = [] := List.map_eq_nil_iff.1 he
    refine .mk [] rfl ?_ (fun h => absurd rfl h) (fun _ h => nomatch h)
    rcases hs with h | ⟨a, m, c, h1, h2, h3, h4, h5⟩
    · exact .inl h
    · exact .inr ⟨a, m, c, h1, h2, h3, h4, fun i v hi => by simp at hi⟩

/-- A list of formulas somewhere in memory. -/
def KA (w : World) (ks : List Fm) (kv : Value) : Prop := KR w (fun b => b < w.heap.size) ks kv
theorem KA.ext {w w' : World} {ks : List Fm} {kv : Value} (h : KA w ks kv) (e : Ext w w') : KA w' ks kv := (KR.ext h e).mono fun b hb => Nat.lt_of_lt_of_le hb e.size
theorem KA.nil (w : World) : KA w [] (.slice none 0 0) := KR.nil _ _
theorem KA.row {w : World} {b c : Nat} {ks : List Fm} (ps : List (Fm × Value)) (he : ps.map (·.1) = ks) (hr : Row w b 0 (ps.flatMap kidL)) (hc : ps.length ≤ c) (hb : b < w.heap.size) (hk : ∀ p ∈ ps, KA w p.1.kids p.2) : KA w ks (.slice (some ⟨b, 0, none⟩) ps.length c) :=
  .mk ps he (.mk (kidL_flat ps) hc hr) (fun _ h => h hb) hk
theorem lt_of_row {w : World} {b o : Nat} {v : Value} {vs : List Value} (h : Row w b o (v :: vs)) : b < w.heap.size := lt_of_cell (h 0 v rfl)
theorem KA.one {w : World} {b c : Nat} {f : Fm} {kv : Value} (hr : Row w b 0 (fmL f kv)) (hc : 1 ≤ c) (hk : KA w f.kids kv) : KA w [f] (.slice (some ⟨b, 0, none⟩) 1 c) :=
  KA.row [(f, kv)] rfl (by simpa [kidL] using hr) hc (lt_of_row hr) fun p hp => by rw [List.mem_singleton.1 hp]; exact hk
theorem KA.two {w : World} {b c : Nat} {f g : Fm} {kv lv : Value} (hr : Row w b 0 (fmL f kv ++ fmL g lv)) (hc : 2 ≤ c) (hk : KA w f.kids kv) (hl : KA w g.kids lv) : KA w [f, g] (.slice (some ⟨b, 0, none⟩) 2 c) :=
  KA.row [(f, kv), (g, lv)] rfl (by simpa [kidL] using hr) hc (lt_of_row hr) fun p hp => by
    rcases List.mem_cons.1 hp with rfl | hp
    · exact hk
    · rw [List.mem_singleton.1 hp]; exact hl
theorem KA.three {w : World} {b c : Nat} {f g h : Fm} {kv lv mv : Value} (hr : Row w b 0 (fmL f kv ++ (fmL g lv ++ fmL h mv))) (hc : 3 ≤ c) (hk : KA w f.kids kv) (hl : KA w g.kids lv) (hm : KA w h.kids mv) : KA w [f, g, h] (.slice (some ⟨b, 0, none⟩) 3 c) :=
  KA.row [(f, kv), (g, lv), (h, mv)] rfl (by simpa [kidL] using hr) hc (lt_of_row hr) fun p hp => by
    rcases List.mem_cons.1 hp with rfl | hp
    · exact hk
    rcases List.mem_cons.1 hp with rfl | hp
    · exact hl
    · rw [List.mem_singleton.1 hp]; exact hm

/-- A formula that came in. -/
structure FmIn (w : World) (f : Fm) (kv : Value) : Prop where
  k : KA w f.kids kv
  n : f.kids.length ≤ 140737488351232
  ns : ∀ k ∈ preL f.kids, k.kids.length ≤ 140737488351232
  t : ∀ k ∈ pre f, k.name.length ≤ 140737488351232
theorem FmIn.ext {w w' : World} {f : Fm} {kv : Value} (h : FmIn w f kv) (e : Ext w w') : FmIn w' f kv := ⟨h.k.ext e, h.n, h.ns, h.t⟩
end Go.Proofs

/-
  Formulas that came in.
-/
set_option linter.unusedVariables false
set_option linter.unusedSimpArgs false
set_option linter.unnecessarySimpa false
set_option maxRecDepth 10000
namespace Go.Proofs
open Go Go.Pd Go.Lexs Go.Fin Go.Fo

section
variable {H : Type} {enc : TypeId × Value → H} {W : World}

theorem preL_mem {x : Fm} : ∀ {ks : List Fm}, x ∈ preL ks → ∃ k ∈ ks, x ∈ pre k
  | [], h => by simp [preL] at h
  | k :: ks, h => by
    simp only [preL, List.mem_append] at h
    rcases h with h | h
    · exact ⟨k, List.mem_cons_self, h⟩
    · obtain ⟨k', h1, h2⟩ := preL_mem h
      exact ⟨k', List.mem_cons_of_mem _ h1, h2⟩

theorem pairs_of : ∀ {css : List (List Value)}, (∀ cs ∈ css, ∃ f kv, cs = fmL f kv ∧ FmIn W f kv) → ∃ ps : List (Fm × Value), css = ps.map kidL ∧ ∀ p ∈ ps, FmIn W p.1 p.2
  | [], _ => ⟨[], rfl, fun _ h => nomatch h⟩
  | cs :: css, h => by
    obtain ⟨f, kv, h1, h2⟩ := h cs List.mem_cons_self
    obtain ⟨ps, h3, h4⟩ := pairs_of fun c hc => h c (List.mem_cons_of_mem _ hc)
    refine ⟨(f, kv) :: ps, by rw [h1, h3]; rfl, fun p hp => ?_⟩
    rcases List.mem_cons.1 hp with rfl | hp
    · exact h2
    · exact h4 p hp

theorem fm_of_cells : ∀ (n : Nat) (cs : List Value), Rd enc Tryd.prog W n 25 cs → ∃ f kv, cs = fmL f kv ∧ FmIn W f kv := by
  intro n
  induction n using Nat.strongRecOn with
  | _ n ih =>
    intro cs hr
    have hs : flatSh Tryd.prog 3 25 = some [.int .i64, .str, .int .i64, .int .i64, .slc 23] := by kernel_rfl
    obtain ⟨hl, hc⟩ := Rd.flat 3 hs hr
    match cs, hl with
    | [c0, c1, c2, c3, c4], _ =>
      obtain ⟨z0, rfl, h0⟩ := hc 0 _ c0 rfl rfl
      obtain ⟨s1, rfl, h1⟩ := hc 1 _ c1 rfl rfl
      obtain ⟨z2, rfl, h2⟩ := hc 2 _ c2 rfl rfl
      obtain ⟨z3, rfl, h3⟩ := hc 3 _ c3 rfl rfl
      have h4 : Rd enc Tryd.prog W n 23 [c4] := hc 4 _ c4 rfl rfl
      rcases Rd.slice Tryd.underlying23 (show Tryd.prog.cellsOf 25 = 5 by kernel_rfl) (by decide) (by decide +kernel) h4 with rfl | ⟨a, m, c, css, n', rfl, rfl, hmc, hcc, hm, hel, hsp, hrow⟩
      · refine ⟨.node z0 s1 z2 z3 [], _, rfl, KA.nil _, by simp [Fm.kids], fun k hk => by simp [Fm.kids, preL] at hk, fun k hk => ?_⟩
        rw [pre_eq] at hk
        simp [Fm.kids, preL] at hk
        subst hk
        exact h1
      · obtain ⟨ps, rfl, hps⟩ := pairs_of (W := W) fun cs hcs => ih n' (by omega) cs (hel cs hcs).2
        have hflat : (ps.map kidL).flatten = ps.flatMap kidL := by rw [List.flatMap]
        rw [hflat] at hrow
        have hlen : ps.length = m := by simpa using hm
        refine ⟨.node z0 s1 z2 z3 (ps.map (·.1)), _, rfl, .mk ps rfl (.inr ⟨a, m, c, rfl, by rw [kidL_flat, hlen], hmc, hsp, hrow⟩) (fun hne => ?_) (fun p hp => (hps p hp).k), ?_, ?_, ?_⟩
        · cases ps with
          | nil => exact absurd rfl hne
          | cons p ps => exact fun h => h (show a.block < W.heap.size from lt_of_cell (a := ⟨a.block, a.off + 0, none⟩) (hrow 0 _ rfl))
        · simp only [Fm.kids, List.length_map]; omega
        · intro k hk
          obtain ⟨q, hq, hkq⟩ := preL_mem hk
          obtain ⟨p, hp, rfl⟩ := List.mem_map.1 hq
          rw [pre_eq] at hkq
          rcases List.mem_cons.1 hkq with rfl | hkq
          · exact (hps p hp).n
          · exact (hps p hp).ns k hkq
        · intro k hk
          rw [pre_eq] at hk
          rcases List.mem_cons.1 hk with rfl | hk
          · exact h1
          · obtain ⟨q, hq, hkq⟩ := preL_mem hk
            obtain ⟨p, hp, rfl⟩ := List.mem_map.1 hq
            exact (hps p hp).t k hkq

theorem open_fm {r : Go.Reach} {base n : Nat} {v : Value} (hv : Value.okWide Tryd.prog W r base 25 v) (h : Rd enc Tryd.prog W n 25 v.cells.toList) : ∃ x : Fm × Value, v = .agg (fmL x.1 x.2).toArray ∧ FmIn W x.1 x.2 := by
  obtain ⟨cs, rfl, -⟩ := okWide_agg hv (by kernel_rfl)
  obtain ⟨f, kv, h1, h2⟩ := fm_of_cells n _ h
  refine ⟨(f, kv), ?_, h2⟩
  have h1 : cs.toList = fmL f kv := h1
  rw [← h1]

/-- A list within a value. -/
theorem Rd.list {α : Type} {f : α → List Value} {Q : α → Prop} {n t e k : Nat} {v : Value} (hu : Tryd.prog.underlying t = some (.slice e)) (hce : Tryd.prog.cellsOf e = k) (hk : 0 < k) (hby : 0 < Tryd.prog.bytesOf e) (h : Rd enc Tryd.prog W n t [v])
    (hel : ∀ n' cs, Rd enc Tryd.prog W n' e cs → ∃ x, cs = f x ∧ Q x) : ∃ L : List α, Sl W v k (L.flatMap f) ∧ L.length ≤ 140737488351232 ∧ ∀ x ∈ L, Q x := by
  rcases Rd.slice hu hce hk hby h with rfl | ⟨a, m, c, css, n', rfl, rfl, hmc, hcc, hm, hel2, hsp, hrow⟩
  · exact ⟨[], Sl.nil _ _, by simp, fun _ h => nomatch h⟩
  · have key : ∀ css : List (List Value), (∀ cs ∈ css, cs.length = k ∧ Rd enc Tryd.prog W n' e cs) → ∃ L : List α, css = L.map f ∧ ∀ x ∈ L, Q x := by
      intro css
      induction css with
      | nil => exact fun _ => ⟨[], rfl, fun _ h => nomatch h⟩
      | cons cs css ih =>
        intro hc
        obtain ⟨x, h1, h2⟩ := hel n' cs (hc cs List.mem_cons_self).2
        obtain ⟨L, h3, h4⟩ := ih fun c h => hc c (List.mem_cons_of_mem _ h)
        refine ⟨x :: L, by rw [h1, h3]; rfl, fun y hy => ?_⟩
        rcases List.mem_cons.1 hy with rfl | hy
        · exact h2
        · exact h4 y hy
    obtain ⟨L, rfl, hL⟩ := key css hel2
    have hfl : (L.map f).flatten = L.flatMap f := by rw [List.flatMap]
    have hlen := flatten_len (k := k) fun cs hcs => (hel2 cs hcs).1
    rw [hfl] at hrow hlen
    rw [List.length_map] at hlen hm
    exact ⟨L, .inr ⟨a, m, c, rfl, by rw [hlen, hm], hmc, hsp, hrow⟩, by omega, hL⟩
end
end Go.Proofs
