/-
  Formulas in memory.
-/
import Derived.Test.YtibaknilaboepaaDoorLD
import Derived.Test.YtibaknilaboepaaDoorProg
import Derived.Test.YtibaknilaboepaaDoorLE
import Derived.Test.YtibaknilaboepaaDoorLX
import Derived.Test.YtibaknilaboepaaDoorLZ
set_option linter.unusedVariables false
set_option linter.unusedSimpArgs false
set_option linter.unnecessarySimpa false
set_option maxRecDepth 10000
namespace Go.Proofs
open Go Go.Pd Go.Lexs Go.Fin Go.Fo
attribute [local irreducible] OpsL W RetQ OpsQ OpsC

/-- The cells of a formula whose kids lie at kv. -/
def fmL (f : Fm) (kv : Value) : List Value := [.int .i64 f.op, str f.name, .int .i64 f.cmp, .int .i64 f.num, kv]
def kidL (p : Fm × Value) : List Value := fmL p.1 p.2
theorem kidL_len (p : Fm × Value) : (kidL p).length = 5 := rfl

/-- A list of formulas at kv, within the blocks G. -/
inductive KR (w : World) (G : Nat → Prop) : List Fm → Value → Prop
  | mk {ks : List Fm} {kv : Value} (ps : List (Fm × Value)) (he : ps.map (·.1) = ks) (hs : Sl w kv 5 (ps.flatMap kidL)) (hg : ps ≠ [] → Off (fun b => ¬ G b) kv) (h : ∀ p ∈ ps, KR w G p.1.kids p.2) : KR w G ks kv

theorem off_sub {G M : Nat → Prop} {v : Value} (h : Off (fun b => ¬ G b) v) (hd : ∀ b, G b → ¬ M b) : Off M v := by
  cases v with
  | slice a m c =>
    cases a with
    | none => trivial
    | some a => exact hd _ (Classical.not_not.1 h)
  | _ => trivial

theorem sl_updE {M : Nat → Prop} {w w' : World} {v : Value} {k : Nat} {vs : List Value} (h : Sl w v k vs) (e : Upd M w w') (hn : vs ≠ [] → Off M v) : Sl w' v k vs := by
  by_cases hv : vs = []
  · subst hv
    rcases h with h | ⟨a, m, c, h1, h2, h3, h4, h5⟩
    · exact .inl h
    · exact .inr ⟨a, m, c, h1, h2, h3, h4, fun i v hi => by simp at hi⟩
  · exact h.upd e (hn hv)

theorem KR.upd {w w' : World} {G M : Nat → Prop} {ks : List Fm} {kv : Value} (h : KR w G ks kv) (e : Upd M w w') (hd : ∀ b, G b → ¬ M b) : KR w' G ks kv := by
  induction h with
  | mk ps he hs hg _ ih => exact .mk ps he (sl_updE hs e fun hne => off_sub (hg fun h => hne (by rw [h]; rfl)) hd) hg ih
theorem KR.ext {w w' : World} {G : Nat → Prop} {ks : List Fm} {kv : Value} (h : KR w G ks kv) (e : Ext w w') : KR w' G ks kv := h.upd e fun _ _ h => h
theorem KR.heap {w w' : World} {G : Nat → Prop} {ks : List Fm} {kv : Value} (h : KR w G ks kv) (e : To w w' w.heap) : KR w' G ks kv := h.ext (Upd.of_heap e)
theorem KR.mono {w : World} {G G' : Nat → Prop} {ks : List Fm} {kv : Value} (h : KR w G ks kv) (hm : ∀ b, G b → G' b) : KR w G' ks kv := by
  induction h with
  | mk ps he hs hg _ ih => exact .mk ps he hs (fun hp => off_sub (hg hp) fun b hb hn => hn (hm b hb)) ih

theorem KR.nil (w : World) (G : Nat → Prop) : KR w G [] (.slice none 0 0) := .mk [] rfl (.nil _ _) (fun h => absurd rfl h) fun _ h => nomatch h

theorem KR.shape {w : World} {G : Nat → Prop} {ks : List Fm} {kv : Value} (h : KR w G ks kv) : ∃ a c, kv = .slice a ks.length c ∧ ks.length ≤ c := by
  cases h with
  | mk ps he hs hg _ =>
    subst he
    rw [List.length_map]
    exact hs.shape (flat_length kidL_len ps) (by omega)

/-- One kid. -/
theorem KR.at {w : World} {G : Nat → Prop} {ks : List Fm} {a : Option Addr} {m c : Nat} (h : KR w G ks (.slice a m c)) {i : Nat} (hi : i < ks.length) :
    ∃ b o kv, a = some ⟨b, o, none⟩ ∧ Row w b (o + i * 5) (fmL ks[i] kv) ∧ KR w G ks[i].kids kv := by
  cases h with
  | mk ps he hs hg hk =>
    subst he
    rw [List.length_map] at hi
    obtain ⟨a', c', h1, h2⟩ := hs.shape (flat_length kidL_len ps) (by omega)
    cases h1
    obtain ⟨b, o, hp, hr⟩ := hs.at (flat_length kidL_len ps) (by omega) (by omega)
    refine ⟨b, o, ps[i].2, hp, ?_, ?_⟩
    · have := hr.elem kidL_len (k := i) (t := ps[i]) (by simp [hi])
      simp only [List.getElem_map]
      exact this
    · simp only [List.getElem_map]
      exact hk _ (List.getElem_mem hi)
end Go.Proofs

/-
  Formulas: sizes, equality, counting.
-/
set_option linter.unusedVariables false
set_option linter.unusedSimpArgs false
set_option linter.unnecessarySimpa false
set_option maxRecDepth 10000
namespace Go.Proofs
open Go Go.Pd Go.Lexs Go.Fin Go.Fo
attribute [local irreducible] OpsL W RetQ OpsQ OpsC

theorem fmL_one {w : World} {G : Nat → Prop} {f : Fm} {kv : Value} (h : KR w G f.kids kv) : (fmL f kv).all Value.oneCell' = true := by
  obtain ⟨a, c, rfl, -⟩ := h.shape
  simp only [fmL, str_eq]
  rfl

set_option maxHeartbeats 2000000 in
theorem size_calls : ∀ (f : Fm) (w : World) (G : Nat → Prop) (kv : Value), KR w G f.kids kv → cnt f ≤ 1000000 → Calls Tryd.prog 13 #[.agg (fmL f kv).toArray] w (fun e w' => ∃ x, e = .returned x ∧ x = .tuple #[.int .i64 (cnt f : Int), .int .i64 (dep f : Int)] ∧ Ext w w') := by
  refine Fm.ind ?_
  intro f ih w G kv hk hc
  obtain ⟨a, c, rfl, -⟩ := hk.shape
  have hcl := len_cntL f.kids
  have hce := cnt_eq f
  have hde := dep_eq f
  refine calls_of Tryd.func13 rfl Tryd.ntmps13 rfl ?_
  refine wk_seq fun K hK => ?_
  refine wk_reg ?_
  refine o_box (LH.start w (fun _ => False)) [.int .i64 (f).op, str (f).name, .int .i64 (f).cmp, .int .i64 (f).num, .slice a f.kids.length c] rfl rfl rfl ?_
  intro b w1 hb hl
  repeat' (first | refine a_mov ?_ | refine a_asg ?_ | refine a_binN ?_ | refine a_notd ?_ | refine a_notb ?_ | refine a_nilc ?_ | refine a_fa ?_ | refine a_ext ?_ | refine a_lenv ?_ | refine a_lens ?_ | refine a_pick_t ?_ | refine a_pick_f ?_ | refine a_not ?_ | refine a_nilf ?_ | (refine o_nil (hK _ _ ?_); clear hK K) | refine wk_reg ?_ | refine wk_seq fun K hK => ?_ | (refine wk_skip (hK _ _ ?_); clear hK K) | (refine wk_label (hK _ _ ?_); clear hK K) | refine wk_scope ?_ | refine wk_block ?_ | refine wk_cond_t rfl ?_ | refine wk_cond_f rfl ?_ | (refine wk_exit ?_; (repeat (refine blockK_other rfl ?_)); refine blockK_same ?_; try ((repeat ((fail_if_success (refine hK _ _ ?_)); clear hK K)); refine hK _ _ ?_; clear hK K)) | (refine a_bin ?_ ?_ <;> intro _ <;> try (exfalso; omega)) | refine a_ld hl ?_ | (refine a_st hl ?_; clear hl; intro _ hl) | refine a_ix (fun _ => ?_) | fail)
  refine wk_loopH [] rfl (fun i : Nat => [(4, .int .i64 (1 + (cntL (f.kids.take i) : Nat) : Int)), (5, .int .i64 (depL (f.kids.take i) : Nat)), (11, .slice a f.kids.length c), (12, .int .i64 (f.kids.length : Int)), (13, .int .i64 (i : Int))]) (fun i w' => i ≤ f.kids.length ∧ Ext w w') (fun i => f.kids.length - i) 0 ⟨rfl, rfl, rfl, rfl, rfl, trivial⟩ ⟨by omega, hl.done⟩ ?_
  clear hl w1
  rintro i t w1 ⟨hi, he⟩
  by_cases hi1 : i < f.kids.length
  · obtain ⟨bk, ok, kv, hp, hr, hkk⟩ := (hk.ext he).at hi1
    have hck := cnt_kid hi1
    have hdk := depL_snoc (f.kids.take i) f.kids[i]
    have hcs := cntL_snoc (f.kids.take i) f.kids[i]
    rw [← List.take_succ_eq_append_getElem hi1] at hdk hcs
    have hdc := dep_le_cnt f.kids[i]
    have hone := fmL_one hkk
    have ihk := ih f.kids[i] (List.getElem_mem hi1)
    generalize f.kids[i] = k at *
    repeat' (first | refine a_mov ?_ | refine a_asg ?_ | refine a_binN ?_ | refine a_notd ?_ | refine a_notb ?_ | refine a_nilc ?_ | refine a_fa ?_ | refine a_ext ?_ | refine a_lenv ?_ | refine a_lens ?_ | refine a_pick_t ?_ | refine a_pick_f ?_ | refine a_not ?_ | refine a_nilf ?_ | (refine o_nil (hK _ _ ?_); clear hK K) | refine wk_reg ?_ | refine wk_seq fun K hK => ?_ | (refine wk_skip (hK _ _ ?_); clear hK K) | (refine wk_label (hK _ _ ?_); clear hK K) | refine wk_scope ?_ | refine wk_block ?_ | refine wk_cond_t rfl ?_ | refine wk_cond_f rfl ?_ | (refine wk_exit ?_; (repeat (refine blockK_other rfl ?_)); refine blockK_same ?_; try ((repeat ((fail_if_success (refine hK _ _ ?_)); clear hK K)); refine hK _ _ ?_; clear hK K)) | (refine a_bin ?_ ?_ <;> intro _ <;> try (exfalso; omega)) | refine a_ld hl ?_ | (refine a_st hl ?_; clear hl; intro _ hl) | refine a_ix (fun _ => ?_) | refine a_idx (c := 5) i hp ?_ | refine a_all hr ?_)
    refine o_alloc (LH.start w1 (fun _ => False)) [.int .i64 0, .string ⟨#[]⟩, .int .i64 0, .int .i64 0, .slice none 0 0] rfl rfl ?_
    intro b2 w2 hb2 hl
    refine o_putN (us := [.int .i64 (k).op, str (k).name, .int .i64 (k).cmp, .int .i64 (k).num, kv]) hl rfl rfl rfl hone rfl (.all rfl rfl) ?_
    clear hl
    intro w3 hl
    repeat' (first | refine a_mov ?_ | refine a_asg ?_ | refine a_binN ?_ | refine a_notd ?_ | refine a_notb ?_ | refine a_nilc ?_ | refine a_fa ?_ | refine a_ext ?_ | refine a_lenv ?_ | refine a_lens ?_ | refine a_pick_t ?_ | refine a_pick_f ?_ | refine a_not ?_ | refine a_nilf ?_ | (refine o_nil (hK _ _ ?_); clear hK K) | refine wk_reg ?_ | refine wk_seq fun K hK => ?_ | (refine wk_skip (hK _ _ ?_); clear hK K) | (refine wk_label (hK _ _ ?_); clear hK K) | refine wk_scope ?_ | refine wk_block ?_ | refine wk_cond_t rfl ?_ | refine wk_cond_f rfl ?_ | (refine wk_exit ?_; (repeat (refine blockK_other rfl ?_)); refine blockK_same ?_; try ((repeat ((fail_if_success (refine hK _ _ ?_)); clear hK K)); refine hK _ _ ?_; clear hK K)) | (refine a_bin ?_ ?_ <;> intro _ <;> try (exfalso; omega)) | refine a_ld hl ?_ | (refine a_st hl ?_; clear hl; intro _ hl) | refine a_ix (fun _ => ?_) | fail)
    refine a_all (hl.rowL (vs := [.int .i64 (k).op, str (k).name, .int .i64 (k).cmp, .int .i64 (k).num, kv]) 0 0 5 rfl) ?_
    refine o_fn (ihk w3 G kv (hkk.ext hl.done) (by omega)) rfl (fun _ => rfl) rfl ?_
    rintro _ w4 ⟨rfl, he4⟩
    repeat' (first | refine a_mov ?_ | refine a_asg ?_ | refine a_binN ?_ | refine a_notd ?_ | refine a_notb ?_ | refine a_nilc ?_ | refine a_fa ?_ | refine a_ext ?_ | refine a_lenv ?_ | refine a_lens ?_ | refine a_pick_t ?_ | refine a_pick_f ?_ | refine a_not ?_ | refine a_nilf ?_ | (refine o_nil (hK _ _ ?_); clear hK K) | refine wk_reg ?_ | refine wk_seq fun K hK => ?_ | (refine wk_skip (hK _ _ ?_); clear hK K) | (refine wk_label (hK _ _ ?_); clear hK K) | refine wk_scope ?_ | refine wk_block ?_ | refine wk_cond_t rfl ?_ | refine wk_cond_f rfl ?_ | (refine wk_exit ?_; (repeat (refine blockK_other rfl ?_)); refine blockK_same ?_; try ((repeat ((fail_if_success (refine hK _ _ ?_)); clear hK K)); refine hK _ _ ?_; clear hK K)) | (refine a_bin ?_ ?_ <;> intro _ <;> try (exfalso; omega)) | refine a_ld hl ?_ | (refine a_st hl ?_; clear hl; intro _ hl) | refine a_ix (fun _ => ?_) | refine o_max rfl rfl rfl ?_)
    refine o_nil ⟨i + 1, ⟨?_, ?_, rfl, rfl, rfl, trivial⟩, rfl, ⟨hi1, (he.trans hl.done).trans he4⟩, by omega⟩
    · show Value.int .i64 _ = Value.int .i64 _
      congr 1; omega
    · show Value.int .i64 (max _ _) = Value.int .i64 _
      congr 1; omega
  · obtain rfl : i = f.kids.length := by omega
    rw [List.take_of_length_le (Nat.le_refl _)]
    have hdc := dep_le_cnt f
    repeat' (first | refine a_mov ?_ | refine a_asg ?_ | refine a_binN ?_ | refine a_notd ?_ | refine a_notb ?_ | refine a_nilc ?_ | refine a_fa ?_ | refine a_ext ?_ | refine a_lenv ?_ | refine a_lens ?_ | refine a_pick_t ?_ | refine a_pick_f ?_ | refine a_not ?_ | refine a_nilf ?_ | (refine o_nil (hK _ _ ?_); clear hK K) | refine wk_reg ?_ | refine wk_seq fun K hK => ?_ | (refine wk_skip (hK _ _ ?_); clear hK K) | (refine wk_label (hK _ _ ?_); clear hK K) | refine wk_scope ?_ | refine wk_block ?_ | refine wk_cond_t rfl ?_ | refine wk_cond_f rfl ?_ | (refine wk_exit ?_; (repeat (refine blockK_other rfl ?_)); refine blockK_same ?_; try ((repeat ((fail_if_success (refine hK _ _ ?_)); clear hK K)); refine hK _ _ ?_; clear hK K)) | (refine a_bin ?_ ?_ <;> intro _ <;> try (exfalso; omega)) | refine a_ld hl ?_ | (refine a_st hl ?_; clear hl; intro _ hl) | refine a_ix (fun _ => ?_) | fail)
    refine wk_ret (retQ_res [.int .i64 (cnt f : Int), .int .i64 (dep f : Int)] rfl rfl ⟨by decide, ?_, by decide, ?_, trivial⟩ ⟨rfl, he⟩)
    · show Value.int .i64 _ = Value.int .i64 _
      congr 1; omega
    · show Value.int .i64 _ = Value.int .i64 _
      congr 1; omega

set_option maxHeartbeats 2000000 in
theorem refSize_calls : ∀ (f : Fm) (w : World) (G : Nat → Prop) (kv : Value), KR w G f.kids kv → cnt f ≤ 1000000 → Calls Tryd.prog 14 #[.agg (fmL f kv).toArray] w (fun e w' => ∃ x, e = .returned x ∧ x = .tuple #[.int .i64 (cnt f : Int), .int .i64 (dep f : Int)] ∧ Ext w w') := by
  refine Fm.ind ?_
  intro f ih w G kv hk hc
  obtain ⟨a, c, rfl, -⟩ := hk.shape
  have hcl := len_cntL f.kids
  have hce := cnt_eq f
  have hde := dep_eq f
  refine calls_of Tryd.func14 rfl Tryd.ntmps14 rfl ?_
  refine wk_seq fun K hK => ?_
  refine wk_reg ?_
  refine o_box (LH.start w (fun _ => False)) [.int .i64 (f).op, str (f).name, .int .i64 (f).cmp, .int .i64 (f).num, .slice a f.kids.length c] rfl rfl rfl ?_
  intro b w1 hb hl
  repeat' (first | refine a_mov ?_ | refine a_asg ?_ | refine a_binN ?_ | refine a_notd ?_ | refine a_notb ?_ | refine a_nilc ?_ | refine a_fa ?_ | refine a_ext ?_ | refine a_lenv ?_ | refine a_lens ?_ | refine a_pick_t ?_ | refine a_pick_f ?_ | refine a_not ?_ | refine a_nilf ?_ | (refine o_nil (hK _ _ ?_); clear hK K) | refine wk_reg ?_ | refine wk_seq fun K hK => ?_ | (refine wk_skip (hK _ _ ?_); clear hK K) | (refine wk_label (hK _ _ ?_); clear hK K) | refine wk_scope ?_ | refine wk_block ?_ | refine wk_cond_t rfl ?_ | refine wk_cond_f rfl ?_ | (refine wk_exit ?_; (repeat (refine blockK_other rfl ?_)); refine blockK_same ?_; try ((repeat ((fail_if_success (refine hK _ _ ?_)); clear hK K)); refine hK _ _ ?_; clear hK K)) | (refine a_bin ?_ ?_ <;> intro _ <;> try (exfalso; omega)) | refine a_ld hl ?_ | (refine a_st hl ?_; clear hl; intro _ hl) | refine a_ix (fun _ => ?_) | fail)
  refine wk_loopH [] rfl (fun i : Nat => [(1, .pointer (some ⟨b, 0, none⟩)), (4, .int .i64 (1 + (cntL (f.kids.take i) : Nat) : Int)), (5, .int .i64 (depL (f.kids.take i) : Nat)), (6, .int .i64 (i : Int))]) (fun i w' => i ≤ f.kids.length ∧ LH w (fun _ => False) w' [(b, Obj.cells ([.int .i64 (f).op, str (f).name, .int .i64 (f).cmp, .int .i64 (f).num, .slice a f.kids.length c] : List Value).toArray 24 (0, 0))]) (fun i => f.kids.length - i) 0 ⟨rfl, rfl, rfl, rfl, trivial⟩ ⟨by omega, hl⟩ ?_
  clear hl w1
  rintro i t w1 ⟨hi, hl⟩
  by_cases hi1 : i < f.kids.length
  · obtain ⟨bk, ok, kv, hp, hr, hkk⟩ := (hk.ext hl.done).at hi1
    have hck := cnt_kid hi1
    have hdk := depL_snoc (f.kids.take i) f.kids[i]
    have hcs := cntL_snoc (f.kids.take i) f.kids[i]
    rw [← List.take_succ_eq_append_getElem hi1] at hdk hcs
    have hdc := dep_le_cnt f.kids[i]
    have ihk := ih f.kids[i] (List.getElem_mem hi1)
    generalize f.kids[i] = k at *
    repeat' (first | refine a_mov ?_ | refine a_asg ?_ | refine a_binN ?_ | refine a_notd ?_ | refine a_notb ?_ | refine a_nilc ?_ | refine a_fa ?_ | refine a_ext ?_ | refine a_lenv ?_ | refine a_lens ?_ | refine a_pick_t ?_ | refine a_pick_f ?_ | refine a_not ?_ | refine a_nilf ?_ | (refine o_nil (hK _ _ ?_); clear hK K) | refine wk_reg ?_ | refine wk_seq fun K hK => ?_ | (refine wk_skip (hK _ _ ?_); clear hK K) | (refine wk_label (hK _ _ ?_); clear hK K) | refine wk_scope ?_ | refine wk_block ?_ | refine wk_cond_t rfl ?_ | refine wk_cond_f rfl ?_ | (refine wk_exit ?_; (repeat (refine blockK_other rfl ?_)); refine blockK_same ?_; try ((repeat ((fail_if_success (refine hK _ _ ?_)); clear hK K)); refine hK _ _ ?_; clear hK K)) | (refine a_bin ?_ ?_ <;> intro _ <;> try (exfalso; omega)) | refine a_ld hl ?_ | (refine a_st hl ?_; clear hl; intro _ hl) | refine a_ix (fun _ => ?_) | refine a_idx (c := 5) i hp ?_ | refine a_all hr ?_)
    refine o_fn (ihk w1 G kv hkk (by omega)) rfl (fun _ => rfl) rfl ?_
    rintro _ w4 ⟨rfl, he4⟩
    repeat' (first | refine a_mov ?_ | refine a_asg ?_ | refine a_binN ?_ | refine a_notd ?_ | refine a_notb ?_ | refine a_nilc ?_ | refine a_fa ?_ | refine a_ext ?_ | refine a_lenv ?_ | refine a_lens ?_ | refine a_pick_t ?_ | refine a_pick_f ?_ | refine a_not ?_ | refine a_nilf ?_ | (refine o_nil (hK _ _ ?_); clear hK K) | refine wk_reg ?_ | refine wk_seq fun K hK => ?_ | (refine wk_skip (hK _ _ ?_); clear hK K) | (refine wk_label (hK _ _ ?_); clear hK K) | refine wk_scope ?_ | refine wk_block ?_ | refine wk_cond_t rfl ?_ | refine wk_cond_f rfl ?_ | (refine wk_exit ?_; (repeat (refine blockK_other rfl ?_)); refine blockK_same ?_; try ((repeat ((fail_if_success (refine hK _ _ ?_)); clear hK K)); refine hK _ _ ?_; clear hK K)) | (refine a_bin ?_ ?_ <;> intro _ <;> try (exfalso; omega)) | refine a_ld hl ?_ | (refine a_st hl ?_; clear hl; intro _ hl) | refine a_ix (fun _ => ?_) | refine o_max rfl rfl rfl ?_)
    refine o_nil ⟨i + 1, ⟨rfl, ?_, ?_, rfl, trivial⟩, rfl, ⟨hi1, hl.ext he4⟩, by omega⟩
    · show Value.int .i64 _ = Value.int .i64 _
      congr 1; omega
    · show Value.int .i64 (max _ _) = Value.int .i64 _
      congr 1; omega
  · obtain rfl : i = f.kids.length := by omega
    rw [List.take_of_length_le (Nat.le_refl _)]
    have hdc := dep_le_cnt f
    repeat' (first | refine a_mov ?_ | refine a_asg ?_ | refine a_binN ?_ | refine a_notd ?_ | refine a_notb ?_ | refine a_nilc ?_ | refine a_fa ?_ | refine a_ext ?_ | refine a_lenv ?_ | refine a_lens ?_ | refine a_pick_t ?_ | refine a_pick_f ?_ | refine a_not ?_ | refine a_nilf ?_ | (refine o_nil (hK _ _ ?_); clear hK K) | refine wk_reg ?_ | refine wk_seq fun K hK => ?_ | (refine wk_skip (hK _ _ ?_); clear hK K) | (refine wk_label (hK _ _ ?_); clear hK K) | refine wk_scope ?_ | refine wk_block ?_ | refine wk_cond_t rfl ?_ | refine wk_cond_f rfl ?_ | (refine wk_exit ?_; (repeat (refine blockK_other rfl ?_)); refine blockK_same ?_; try ((repeat ((fail_if_success (refine hK _ _ ?_)); clear hK K)); refine hK _ _ ?_; clear hK K)) | (refine a_bin ?_ ?_ <;> intro _ <;> try (exfalso; omega)) | refine a_ld hl ?_ | (refine a_st hl ?_; clear hl; intro _ hl) | refine a_ix (fun _ => ?_) | fail)
    refine wk_ret (retQ_res [.int .i64 (cnt f : Int), .int .i64 (dep f : Int)] rfl rfl ⟨by decide, ?_, by decide, ?_, trivial⟩ ⟨rfl, hl.done⟩)
    · show Value.int .i64 _ = Value.int .i64 _
      congr 1; omega
    · show Value.int .i64 _ = Value.int .i64 _
      congr 1; omega

set_option maxHeartbeats 2000000 in
theorem count_calls : ∀ (f : Fm) (w : World) (G : Nat → Prop) (kv : Value) (most : Nat), KR w G f.kids kv → most ≤ 1000000 → f.kids.length ≤ 140737488351232 → (∀ k ∈ preL f.kids, k.kids.length ≤ 140737488351232) → Calls Tryd.prog 35 #[.agg (fmL f kv).toArray, .int .i64 (most : Int)] w (fun e w' => ∃ x, e = .returned x ∧ x = .int .i64 ((min (cnt f) (most + 1) : Nat) : Int) ∧ Ext w w') := by
  refine Fm.ind ?_
  intro f ih w G kv most hk hm hlen hlens
  obtain ⟨a, c, rfl, -⟩ := hk.shape
  have hce := cnt_eq f
  refine calls_of Tryd.func35 rfl Tryd.ntmps35 rfl ?_
  refine wk_seq fun K hK => ?_
  refine wk_reg ?_
  refine o_box (LH.start w (fun _ => False)) [.int .i64 (f).op, str (f).name, .int .i64 (f).cmp, .int .i64 (f).num, .slice a f.kids.length c] rfl rfl rfl ?_
  intro b w1 hb hl
  repeat' (first | refine a_mov ?_ | refine a_asg ?_ | refine a_binN ?_ | refine a_notd ?_ | refine a_notb ?_ | refine a_nilc ?_ | refine a_fa ?_ | refine a_ext ?_ | refine a_lenv ?_ | refine a_lens ?_ | refine a_pick_t ?_ | refine a_pick_f ?_ | refine a_not ?_ | refine a_nilf ?_ | (refine o_nil (hK _ _ ?_); clear hK K) | refine wk_reg ?_ | refine wk_seq fun K hK => ?_ | (refine wk_skip (hK _ _ ?_); clear hK K) | (refine wk_label (hK _ _ ?_); clear hK K) | refine wk_scope ?_ | refine wk_block ?_ | refine wk_cond_t rfl ?_ | refine wk_cond_f rfl ?_ | (refine wk_exit ?_; (repeat (refine blockK_other rfl ?_)); refine blockK_same ?_; try ((repeat ((fail_if_success (refine hK _ _ ?_)); clear hK K)); refine hK _ _ ?_; clear hK K)) | (refine a_bin ?_ ?_ <;> intro _ <;> try (exfalso; omega)) | refine a_ld hl ?_ | (refine a_st hl ?_; clear hl; intro _ hl) | refine a_ix (fun _ => ?_) | fail)
  refine wk_loopH [] rfl (fun i : Nat => [(1, .int .i64 (most : Int)), (2, .pointer (some ⟨b, 0, none⟩)), (5, .int .i64 ((min (1 + cntL (f.kids.take i)) (most + 1) : Nat) : Int)), (6, .int .i64 (i : Int))]) (fun i w' => i ≤ f.kids.length ∧ LH w (fun _ => False) w' [(b, Obj.cells ([.int .i64 (f).op, str (f).name, .int .i64 (f).cmp, .int .i64 (f).num, .slice a f.kids.length c] : List Value).toArray 24 (0, 0))]) (fun i => f.kids.length - i) 0 ⟨rfl, rfl, by show Value.int .i64 1 = Value.int .i64 _; congr 1, rfl, trivial⟩ ⟨by omega, hl⟩ ?_
  clear hl w1
  rintro i t w1 ⟨hi, hl⟩
  by_cases hi1 : i < f.kids.length
  · obtain ⟨bk, ok, kv, hp, hr, hkk⟩ := (hk.ext hl.done).at hi1
    have hck := cnt_kid hi1
    have hcs := cntL_snoc (f.kids.take i) f.kids[i]
    rw [← List.take_succ_eq_append_getElem hi1] at hcs
    have hkl : f.kids[i].kids.length ≤ 140737488351232 ∧ ∀ k ∈ preL f.kids[i].kids, k.kids.length ≤ 140737488351232 := by
      have hsub : ∀ x ∈ pre f.kids[i], x ∈ preL f.kids := fun x hx => by
        have h1 := preL_app (f.kids.take (i + 1)) (f.kids.drop (i + 1))
        rw [List.take_append_drop, List.take_succ_eq_append_getElem hi1, preL_snoc] at h1
        rw [h1]
        exact List.mem_append_left _ (List.mem_append_right _ hx)
      rw [pre_eq] at hsub
      exact ⟨hlens _ (hsub _ List.mem_cons_self), fun x hx => hlens x (hsub x (List.mem_cons_of_mem _ hx))⟩
    have ihk := ih f.kids[i] (List.getElem_mem hi1)
    have hcp := cnt_pos f.kids[i]
    have hcl := cntL_take f.kids i
    generalize f.kids[i] = k at *
    by_cases hmm : 1 + cntL (f.kids.take i) ≤ most
    · rw [Nat.min_eq_left (by omega : 1 + cntL (f.kids.take i) ≤ most + 1)]
      repeat' (first | refine a_mov ?_ | refine a_asg ?_ | refine a_binN ?_ | refine a_notd ?_ | refine a_notb ?_ | refine a_nilc ?_ | refine a_fa ?_ | refine a_ext ?_ | refine a_lenv ?_ | refine a_lens ?_ | refine a_pick_t ?_ | refine a_pick_f ?_ | refine a_not ?_ | refine a_nilf ?_ | (refine o_nil (hK _ _ ?_); clear hK K) | refine wk_reg ?_ | refine wk_seq fun K hK => ?_ | (refine wk_skip (hK _ _ ?_); clear hK K) | (refine wk_label (hK _ _ ?_); clear hK K) | refine wk_scope ?_ | refine wk_block ?_ | refine wk_cond_t rfl ?_ | refine wk_cond_f rfl ?_ | (refine wk_exit ?_; (repeat (refine blockK_other rfl ?_)); refine blockK_same ?_; try ((repeat ((fail_if_success (refine hK _ _ ?_)); clear hK K)); refine hK _ _ ?_; clear hK K)) | (refine a_bin ?_ ?_ <;> intro _ <;> try (exfalso; omega)) | refine a_ld hl ?_ | (refine a_st hl ?_; clear hl; intro _ hl) | refine a_ix (fun _ => ?_) | refine a_idx (c := 5) i hp ?_ | refine a_all hr ?_)
      have harg : (most : Int) - ((1 + cntL (f.kids.take i) : Nat) : Int) = ((most - (1 + cntL (f.kids.take i)) : Nat) : Int) := by omega
      rw [harg]
      refine o_fn (ihk w1 G kv (most - (1 + cntL (f.kids.take i))) hkk (by omega) hkl.1 hkl.2) rfl (fun _ => rfl) rfl ?_
      rintro _ w4 ⟨rfl, he4⟩
      repeat' (first | refine a_mov ?_ | refine a_asg ?_ | refine a_binN ?_ | refine a_notd ?_ | refine a_notb ?_ | refine a_nilc ?_ | refine a_fa ?_ | refine a_ext ?_ | refine a_lenv ?_ | refine a_lens ?_ | refine a_pick_t ?_ | refine a_pick_f ?_ | refine a_not ?_ | refine a_nilf ?_ | (refine o_nil (hK _ _ ?_); clear hK K) | refine wk_reg ?_ | refine wk_seq fun K hK => ?_ | (refine wk_skip (hK _ _ ?_); clear hK K) | (refine wk_label (hK _ _ ?_); clear hK K) | refine wk_scope ?_ | refine wk_block ?_ | refine wk_cond_t rfl ?_ | refine wk_cond_f rfl ?_ | (refine wk_exit ?_; (repeat (refine blockK_other rfl ?_)); refine blockK_same ?_; try ((repeat ((fail_if_success (refine hK _ _ ?_)); clear hK K)); refine hK _ _ ?_; clear hK K)) | (refine a_bin ?_ ?_ <;> intro _ <;> try (exfalso; omega)) | refine a_ld hl ?_ | (refine a_st hl ?_; clear hl; intro _ hl) | refine a_ix (fun _ => ?_) | fail)
      refine o_nil ⟨i + 1, ⟨rfl, rfl, ?_, rfl, trivial⟩, rfl, ⟨hi1, hl.ext he4⟩, by omega⟩
      show Value.int .i64 _ = Value.int .i64 _
      congr 1; omega
    · rw [Nat.min_eq_right (by omega : most + 1 ≤ 1 + cntL (f.kids.take i))]
      repeat' (first | refine a_mov ?_ | refine a_asg ?_ | refine a_binN ?_ | refine a_notd ?_ | refine a_notb ?_ | refine a_nilc ?_ | refine a_fa ?_ | refine a_ext ?_ | refine a_lenv ?_ | refine a_lens ?_ | refine a_pick_t ?_ | refine a_pick_f ?_ | refine a_not ?_ | refine a_nilf ?_ | (refine o_nil (hK _ _ ?_); clear hK K) | refine wk_reg ?_ | refine wk_seq fun K hK => ?_ | (refine wk_skip (hK _ _ ?_); clear hK K) | (refine wk_label (hK _ _ ?_); clear hK K) | refine wk_scope ?_ | refine wk_block ?_ | refine wk_cond_t rfl ?_ | refine wk_cond_f rfl ?_ | (refine wk_exit ?_; (repeat (refine blockK_other rfl ?_)); refine blockK_same ?_; try ((repeat ((fail_if_success (refine hK _ _ ?_)); clear hK K)); refine hK _ _ ?_; clear hK K)) | (refine a_bin ?_ ?_ <;> intro _ <;> try (exfalso; omega)) | refine a_ld hl ?_ | (refine a_st hl ?_; clear hl; intro _ hl) | refine a_ix (fun _ => ?_) | fail)
      refine wk_ret (retQ_tmp1 Tryd.results35 (by decide) rfl (by conv => lhs; whnf) ?_)
      refine ⟨?_, hl.done⟩
      congr 1; omega
  · obtain rfl : i = f.kids.length := by omega
    rw [List.take_of_length_le (Nat.le_refl _)]
    repeat' (first | refine a_mov ?_ | refine a_asg ?_ | refine a_binN ?_ | refine a_notd ?_ | refine a_notb ?_ | refine a_nilc ?_ | refine a_fa ?_ | refine a_ext ?_ | refine a_lenv ?_ | refine a_lens ?_ | refine a_pick_t ?_ | refine a_pick_f ?_ | refine a_not ?_ | refine a_nilf ?_ | (refine o_nil (hK _ _ ?_); clear hK K) | refine wk_reg ?_ | refine wk_seq fun K hK => ?_ | (refine wk_skip (hK _ _ ?_); clear hK K) | (refine wk_label (hK _ _ ?_); clear hK K) | refine wk_scope ?_ | refine wk_block ?_ | refine wk_cond_t rfl ?_ | refine wk_cond_f rfl ?_ | (refine wk_exit ?_; (repeat (refine blockK_other rfl ?_)); refine blockK_same ?_; try ((repeat ((fail_if_success (refine hK _ _ ?_)); clear hK K)); refine hK _ _ ?_; clear hK K)) | (refine a_bin ?_ ?_ <;> intro _ <;> try (exfalso; omega)) | refine a_ld hl ?_ | (refine a_st hl ?_; clear hl; intro _ hl) | refine a_ix (fun _ => ?_) | fail)
    refine wk_ret (retQ_tmp1 Tryd.results35 (by decide) rfl (by conv => lhs; whnf) ?_)
    refine ⟨?_, hl.done⟩
    congr 1; omega
end Go.Proofs

/-
  Formulas: are two the same.
-/
set_option linter.unusedVariables false
set_option linter.unusedSimpArgs false
set_option linter.unnecessarySimpa false
set_option maxRecDepth 10000
namespace Go.Proofs
open Go Go.Pd Go.Lexs Go.Fin Go.Fo
attribute [local irreducible] OpsL W RetQ OpsQ OpsC

/-- What a function that compares two formulas answers. -/
def SameC (P : Program) (F : FuncId) (f : Fm) : Prop := ∀ (g : Fm) (w : World) (G G' : Nat → Prop) (kv kv' : Value), KR w G f.kids kv → KR w G' g.kids kv' → f.kids.length ≤ 9223372036854775806 → g.kids.length ≤ 9223372036854775806 → (∀ k ∈ preL f.kids, k.kids.length ≤ 9223372036854775806) → (∀ k ∈ preL g.kids, k.kids.length ≤ 9223372036854775806) →
  Calls P F #[.agg (fmL f kv).toArray, .agg (fmL g kv').toArray] w (fun e w' => ∃ x, e = .returned x ∧ x = .bool (decide (f = g)) ∧ Ext w w')

/-- All lists of kids are short. -/
def Short (ks : List Fm) : Prop := ks.length ≤ 9223372036854775806 ∧ ∀ k ∈ preL ks, k.kids.length ≤ 9223372036854775806

theorem Short.kid {ks : List Fm} (h : Short ks) {i : Nat} (hi : i < ks.length) : Short ks[i].kids := by
  have hsub : ∀ x ∈ pre ks[i], x ∈ preL ks := fun x hx => by
    have h1 := preL_app (ks.take (i + 1)) (ks.drop (i + 1))
    rw [List.take_append_drop, List.take_succ_eq_append_getElem hi, preL_snoc] at h1
    rw [h1]
    exact List.mem_append_left _ (List.mem_append_right _ hx)
  rw [pre_eq] at hsub
  exact ⟨h.2 _ (hsub _ List.mem_cons_self), fun x hx => h.2 x (hsub x (List.mem_cons_of_mem _ hx))⟩

theorem take_eq {α : Type} {a b : List α} {k : Nat} (ha : k < a.length) (hb : k < b.length) (h : a.take k = b.take k) (he : a[k] = b[k]) : a.take (k + 1) = b.take (k + 1) := by
  rw [List.take_succ_eq_append_getElem ha, List.take_succ_eq_append_getElem hb, h, he]

theorem ne_at {α : Type} {a b : List α} {k : Nat} (ha : k < a.length) (hb : k < b.length) (he : a[k] ≠ b[k]) : a ≠ b := by
  rintro rfl
  exact he rfl

theorem fm_dec (f g : Fm) : decide (f = g) = (decide (f.op = g.op) && (decide (f.name = g.name) && (decide (f.cmp = g.cmp) && (decide (f.num = g.num) && decide (f.kids = g.kids))))) := by
  rw [Bool.eq_iff_iff]
  simp only [Bool.and_eq_true, decide_eq_true_eq]
  cases f; cases g
  simp [Fm.op, Fm.name, Fm.cmp, Fm.num, Fm.kids]

set_option maxHeartbeats 2000000 in
theorem equal_calls (ks ls : List Fm) (hS : ∀ k ∈ ks, SameC Tryd.prog 20 k) (w : World) (G G' : Nat → Prop) (kv kv' : Value) (hk : KR w G ks kv) (hl' : KR w G' ls kv') (h1 : Short ks) (h2 : Short ls) :
    Calls Tryd.prog 43 #[kv, kv', .func (.func 20) #[] #[]] w (fun e w' => ∃ x, e = .returned x ∧ x = .bool (decide (ks = ls)) ∧ Ext w w') := by
  obtain ⟨a, c, rfl, -⟩ := hk.shape
  obtain ⟨a', c', rfl, -⟩ := hl'.shape
  have hn1 := h1.1
  have hn2 := h2.1
  refine calls_of Tryd.func43 rfl Tryd.ntmps43 rfl ?_
  repeat' (first | refine a_mov ?_ | refine a_asg ?_ | refine a_binN ?_ | refine a_notd ?_ | refine a_notb ?_ | refine a_nilc ?_ | refine a_fa ?_ | refine a_ext ?_ | refine a_lenv ?_ | refine a_lens ?_ | refine a_pick_t ?_ | refine a_pick_f ?_ | refine a_not ?_ | refine a_nilf ?_ | (refine o_nil (hK _ _ ?_); clear hK K) | refine wk_reg ?_ | refine wk_seq fun K hK => ?_ | (refine wk_skip (hK _ _ ?_); clear hK K) | (refine wk_label (hK _ _ ?_); clear hK K) | refine wk_scope ?_ | refine wk_block ?_ | refine wk_cond_t rfl ?_ | refine wk_cond_f rfl ?_ | (refine wk_exit ?_; (repeat (refine blockK_other rfl ?_)); refine blockK_same ?_; try ((repeat ((fail_if_success (refine hK _ _ ?_)); clear hK K)); refine hK _ _ ?_; clear hK K)) | (refine a_bin ?_ ?_ <;> intro _ <;> try (exfalso; omega)) | refine a_ld hl ?_ | (refine a_st hl ?_; clear hl; intro _ hl) | refine a_ix (fun _ => ?_) | fail)
  · refine wk_ret (retQ_tmp1 Tryd.results43 (by decide) rfl (by conv => lhs; whnf) ?_)
    refine ⟨?_, .refl _ _⟩
    rw [decide_eq_false]
    rintro rfl
    omega
  have hab : ks.length = ls.length := by omega
  refine wk_loopH [] rfl (fun i : Nat => [(1, .slice a' ls.length c'), (2, .func (.func 20) #[] #[]), (15, .slice a ks.length c), (16, .int .i64 (ks.length : Int)), (17, .int .i64 (i : Int))]) (fun i w' => (i ≤ ks.length ∧ ks.take i = ls.take i) ∧ Ext w w') (fun i => ks.length - i) 0 ⟨rfl, rfl, rfl, rfl, rfl, trivial⟩ ⟨⟨by omega, by simp⟩, .refl _ _⟩ ?_
  rintro i t w1 ⟨⟨hi, hpre⟩, he⟩
  by_cases hi1 : i < ks.length
  · have hi2 : i < ls.length := by omega
    obtain ⟨bk, ok, kv, hp, hr, hkk⟩ := (hk.ext he).at hi1
    obtain ⟨bl, ol, lv, hp', hr', hll⟩ := (hl'.ext he).at hi2
    have hSk := hS ks[i] (List.getElem_mem hi1)
    have hs1 := h1.kid hi1
    have hs2 := h2.kid hi2
    have hnx := take_eq hi1 hi2 hpre
    have hne := ne_at hi1 hi2
    have hone := fmL_one hkk
    have hone' := fmL_one hll
    generalize ks[i] = k at *
    generalize ls[i] = l at *
    repeat' (first | refine a_mov ?_ | refine a_asg ?_ | refine a_binN ?_ | refine a_notd ?_ | refine a_notb ?_ | refine a_nilc ?_ | refine a_fa ?_ | refine a_ext ?_ | refine a_lenv ?_ | refine a_lens ?_ | refine a_pick_t ?_ | refine a_pick_f ?_ | refine a_not ?_ | refine a_nilf ?_ | (refine o_nil (hK _ _ ?_); clear hK K) | refine wk_reg ?_ | refine wk_seq fun K hK => ?_ | (refine wk_skip (hK _ _ ?_); clear hK K) | (refine wk_label (hK _ _ ?_); clear hK K) | refine wk_scope ?_ | refine wk_block ?_ | refine wk_cond_t rfl ?_ | refine wk_cond_f rfl ?_ | (refine wk_exit ?_; (repeat (refine blockK_other rfl ?_)); refine blockK_same ?_; try ((repeat ((fail_if_success (refine hK _ _ ?_)); clear hK K)); refine hK _ _ ?_; clear hK K)) | (refine a_bin ?_ ?_ <;> intro _ <;> try (exfalso; omega)) | refine a_ld hl ?_ | (refine a_st hl ?_; clear hl; intro _ hl) | refine a_ix (fun _ => ?_) | refine a_idx (c := 5) i hp ?_ | refine a_all hr ?_)
    refine o_alloc (LH.start w1 (fun _ => False)) [.int .i64 0, .string ⟨#[]⟩, .int .i64 0, .int .i64 0, .slice none 0 0] rfl rfl ?_
    intro b2 w2 hb2 hl
    repeat' (first | refine a_mov ?_ | refine a_asg ?_ | refine a_binN ?_ | refine a_notd ?_ | refine a_notb ?_ | refine a_nilc ?_ | refine a_fa ?_ | refine a_ext ?_ | refine a_lenv ?_ | refine a_lens ?_ | refine a_pick_t ?_ | refine a_pick_f ?_ | refine a_not ?_ | refine a_nilf ?_ | (refine o_nil (hK _ _ ?_); clear hK K) | refine wk_reg ?_ | refine wk_seq fun K hK => ?_ | (refine wk_skip (hK _ _ ?_); clear hK K) | (refine wk_label (hK _ _ ?_); clear hK K) | refine wk_scope ?_ | refine wk_block ?_ | refine wk_cond_t rfl ?_ | refine wk_cond_f rfl ?_ | (refine wk_exit ?_; (repeat (refine blockK_other rfl ?_)); refine blockK_same ?_; try ((repeat ((fail_if_success (refine hK _ _ ?_)); clear hK K)); refine hK _ _ ?_; clear hK K)) | (refine a_bin ?_ ?_ <;> intro _ <;> try (exfalso; omega)) | refine a_ld hl ?_ | (refine a_st hl ?_; clear hl; intro _ hl) | refine a_ix (fun _ => ?_) | fail)
    refine o_putN (us := [.int .i64 (k).op, str (k).name, .int .i64 (k).cmp, .int .i64 (k).num, kv]) hl rfl rfl rfl hone rfl (.all rfl rfl) ?_
    clear hl
    intro w3 hl
    repeat' (first | refine a_mov ?_ | refine a_asg ?_ | refine a_binN ?_ | refine a_notd ?_ | refine a_notb ?_ | refine a_nilc ?_ | refine a_fa ?_ | refine a_ext ?_ | refine a_lenv ?_ | refine a_lens ?_ | refine a_pick_t ?_ | refine a_pick_f ?_ | refine a_not ?_ | refine a_nilf ?_ | (refine o_nil (hK _ _ ?_); clear hK K) | refine wk_reg ?_ | refine wk_seq fun K hK => ?_ | (refine wk_skip (hK _ _ ?_); clear hK K) | (refine wk_label (hK _ _ ?_); clear hK K) | refine wk_scope ?_ | refine wk_block ?_ | refine wk_cond_t rfl ?_ | refine wk_cond_f rfl ?_ | (refine wk_exit ?_; (repeat (refine blockK_other rfl ?_)); refine blockK_same ?_; try ((repeat ((fail_if_success (refine hK _ _ ?_)); clear hK K)); refine hK _ _ ?_; clear hK K)) | (refine a_bin ?_ ?_ <;> intro _ <;> try (exfalso; omega)) | refine a_ld hl ?_ | (refine a_st hl ?_; clear hl; intro _ hl) | refine a_ix (fun _ => ?_) | refine a_idx (c := 5) i hp' ?_ | refine a_all (hr'.ext hl.done) ?_)
    refine o_alloc hl [.int .i64 0, .string ⟨#[]⟩, .int .i64 0, .int .i64 0, .slice none 0 0] rfl rfl ?_
    clear hl
    intro b3 w4 hb3 hl
    refine o_putN (us := [.int .i64 (l).op, str (l).name, .int .i64 (l).cmp, .int .i64 (l).num, lv]) hl rfl rfl rfl hone' rfl (.all rfl rfl) ?_
    clear hl
    intro w5 hl
    repeat' (first | refine a_mov ?_ | refine a_asg ?_ | refine a_binN ?_ | refine a_notd ?_ | refine a_notb ?_ | refine a_nilc ?_ | refine a_fa ?_ | refine a_ext ?_ | refine a_lenv ?_ | refine a_lens ?_ | refine a_pick_t ?_ | refine a_pick_f ?_ | refine a_not ?_ | refine a_nilf ?_ | (refine o_nil (hK _ _ ?_); clear hK K) | refine wk_reg ?_ | refine wk_seq fun K hK => ?_ | (refine wk_skip (hK _ _ ?_); clear hK K) | (refine wk_label (hK _ _ ?_); clear hK K) | refine wk_scope ?_ | refine wk_block ?_ | refine wk_cond_t rfl ?_ | refine wk_cond_f rfl ?_ | (refine wk_exit ?_; (repeat (refine blockK_other rfl ?_)); refine blockK_same ?_; try ((repeat ((fail_if_success (refine hK _ _ ?_)); clear hK K)); refine hK _ _ ?_; clear hK K)) | (refine a_bin ?_ ?_ <;> intro _ <;> try (exfalso; omega)) | refine a_ld hl ?_ | (refine a_st hl ?_; clear hl; intro _ hl) | refine a_ix (fun _ => ?_) | refine a_all (hl.rowL (vs := [.int .i64 (k).op, str (k).name, .int .i64 (k).cmp, .int .i64 (k).num, kv]) 1 0 5 rfl) ?_ | refine a_all (hl.rowL (vs := [.int .i64 (l).op, str (l).name, .int .i64 (l).cmp, .int .i64 (l).num, lv]) 0 0 5 rfl) ?_)
    refine a_fv (hSk l w5 G G' kv lv (hkk.ext hl.done) (hll.ext hl.done) hs1.1 hs2.1 hs1.2 hs2.2) ?_
    rintro _ w6 ⟨rfl, he6⟩
    by_cases hkl : k = l
    · rw [decide_eq_true hkl]
      repeat' (first | refine a_mov ?_ | refine a_asg ?_ | refine a_binN ?_ | refine a_notd ?_ | refine a_notb ?_ | refine a_nilc ?_ | refine a_fa ?_ | refine a_ext ?_ | refine a_lenv ?_ | refine a_lens ?_ | refine a_pick_t ?_ | refine a_pick_f ?_ | refine a_not ?_ | refine a_nilf ?_ | (refine o_nil (hK _ _ ?_); clear hK K) | refine wk_reg ?_ | refine wk_seq fun K hK => ?_ | (refine wk_skip (hK _ _ ?_); clear hK K) | (refine wk_label (hK _ _ ?_); clear hK K) | refine wk_scope ?_ | refine wk_block ?_ | refine wk_cond_t rfl ?_ | refine wk_cond_f rfl ?_ | (refine wk_exit ?_; (repeat (refine blockK_other rfl ?_)); refine blockK_same ?_; try ((repeat ((fail_if_success (refine hK _ _ ?_)); clear hK K)); refine hK _ _ ?_; clear hK K)) | (refine a_bin ?_ ?_ <;> intro _ <;> try (exfalso; omega)) | refine a_ld hl ?_ | (refine a_st hl ?_; clear hl; intro _ hl) | refine a_ix (fun _ => ?_) | fail)
      exact o_nil ⟨i + 1, ⟨rfl, rfl, rfl, rfl, rfl, trivial⟩, rfl, ⟨⟨hi1, hnx hkl⟩, (he.trans hl.done).trans he6⟩, by omega⟩
    · rw [decide_eq_false hkl]
      repeat' (first | refine a_mov ?_ | refine a_asg ?_ | refine a_binN ?_ | refine a_notd ?_ | refine a_notb ?_ | refine a_nilc ?_ | refine a_fa ?_ | refine a_ext ?_ | refine a_lenv ?_ | refine a_lens ?_ | refine a_pick_t ?_ | refine a_pick_f ?_ | refine a_not ?_ | refine a_nilf ?_ | (refine o_nil (hK _ _ ?_); clear hK K) | refine wk_reg ?_ | refine wk_seq fun K hK => ?_ | (refine wk_skip (hK _ _ ?_); clear hK K) | (refine wk_label (hK _ _ ?_); clear hK K) | refine wk_scope ?_ | refine wk_block ?_ | refine wk_cond_t rfl ?_ | refine wk_cond_f rfl ?_ | (refine wk_exit ?_; (repeat (refine blockK_other rfl ?_)); refine blockK_same ?_; try ((repeat ((fail_if_success (refine hK _ _ ?_)); clear hK K)); refine hK _ _ ?_; clear hK K)) | (refine a_bin ?_ ?_ <;> intro _ <;> try (exfalso; omega)) | refine a_ld hl ?_ | (refine a_st hl ?_; clear hl; intro _ hl) | refine a_ix (fun _ => ?_) | fail)
      refine wk_ret (retQ_tmp1 Tryd.results43 (by decide) rfl (by conv => lhs; whnf) ?_)
      exact ⟨by rw [decide_eq_false (hne hkl)], (he.trans hl.done).trans he6⟩
  · have hke : i = ks.length := by omega
    subst hke
    rw [List.take_of_length_le (Nat.le_refl _), hab, List.take_of_length_le (Nat.le_refl _)] at hpre
    repeat' (first | refine a_mov ?_ | refine a_asg ?_ | refine a_binN ?_ | refine a_notd ?_ | refine a_notb ?_ | refine a_nilc ?_ | refine a_fa ?_ | refine a_ext ?_ | refine a_lenv ?_ | refine a_lens ?_ | refine a_pick_t ?_ | refine a_pick_f ?_ | refine a_not ?_ | refine a_nilf ?_ | (refine o_nil (hK _ _ ?_); clear hK K) | refine wk_reg ?_ | refine wk_seq fun K hK => ?_ | (refine wk_skip (hK _ _ ?_); clear hK K) | (refine wk_label (hK _ _ ?_); clear hK K) | refine wk_scope ?_ | refine wk_block ?_ | refine wk_cond_t rfl ?_ | refine wk_cond_f rfl ?_ | (refine wk_exit ?_; (repeat (refine blockK_other rfl ?_)); refine blockK_same ?_; try ((repeat ((fail_if_success (refine hK _ _ ?_)); clear hK K)); refine hK _ _ ?_; clear hK K)) | (refine a_bin ?_ ?_ <;> intro _ <;> try (exfalso; omega)) | refine a_ld hl ?_ | (refine a_st hl ?_; clear hl; intro _ hl) | refine a_ix (fun _ => ?_) | fail)
    refine wk_ret (retQ_tmp1 Tryd.results43 (by decide) rfl (by conv => lhs; whnf) ?_)
    exact ⟨by rw [decide_eq_true hpre], he⟩

set_option maxHeartbeats 2000000 in
theorem same_fm_calls : ∀ f : Fm, SameC Tryd.prog 20 f := by
  refine Fm.ind ?_
  intro f ih g w G G' kv kv' hk hk' n1 n2 s1 s2
  have hdec := fm_dec f g
  obtain ⟨a, c, rfl, -⟩ := hk.shape
  obtain ⟨a', c', rfl, -⟩ := hk'.shape
  refine calls_of Tryd.func20 rfl Tryd.ntmps20 rfl ?_
  refine wk_seq fun K hK => ?_
  refine wk_reg ?_
  refine o_box (LH.start w (fun _ => False)) [.int .i64 (f).op, str (f).name, .int .i64 (f).cmp, .int .i64 (f).num, .slice a f.kids.length c] rfl rfl rfl ?_
  intro b1 w1 hb1 hl
  refine o_box hl [.int .i64 (g).op, str (g).name, .int .i64 (g).cmp, .int .i64 (g).num, .slice a' g.kids.length c'] rfl rfl rfl ?_
  clear hl
  intro b2 w2 hb2 hl
  have he := hl.done
  repeat' (first | refine a_mov ?_ | refine a_asg ?_ | refine a_binN ?_ | refine a_notd ?_ | refine a_notb ?_ | refine a_nilc ?_ | refine a_fa ?_ | refine a_ext ?_ | refine a_lenv ?_ | refine a_lens ?_ | refine a_pick_t ?_ | refine a_pick_f ?_ | refine a_not ?_ | refine a_nilf ?_ | (refine o_nil (hK _ _ ?_); clear hK K) | refine wk_reg ?_ | refine wk_seq fun K hK => ?_ | (refine wk_skip (hK _ _ ?_); clear hK K) | (refine wk_label (hK _ _ ?_); clear hK K) | refine wk_scope ?_ | refine wk_block ?_ | refine wk_cond_t rfl ?_ | refine wk_cond_f rfl ?_ | (refine wk_exit ?_; (repeat (refine blockK_other rfl ?_)); refine blockK_same ?_; try ((repeat ((fail_if_success (refine hK _ _ ?_)); clear hK K)); refine hK _ _ ?_; clear hK K)) | (refine a_bin ?_ ?_ <;> intro _ <;> try (exfalso; omega)) | refine a_ld hl ?_ | (refine a_st hl ?_; clear hl; intro _ hl) | refine a_ix (fun _ => ?_) | (refine o_eqsT (a := f.name) (b := g.name) rfl rfl rfl ?_ ?_ <;> intro _))
  · refine a_fn (equal_calls f.kids g.kids ih w2 G G' _ _ (hk.ext he) (hk'.ext he) ⟨n1, s1⟩ ⟨n2, s2⟩) ?_
    rintro _ w3 ⟨rfl, he3⟩
    repeat' (first | refine a_mov ?_ | refine a_asg ?_ | refine a_binN ?_ | refine a_notd ?_ | refine a_notb ?_ | refine a_nilc ?_ | refine a_fa ?_ | refine a_ext ?_ | refine a_lenv ?_ | refine a_lens ?_ | refine a_pick_t ?_ | refine a_pick_f ?_ | refine a_not ?_ | refine a_nilf ?_ | (refine o_nil (hK _ _ ?_); clear hK K) | refine wk_reg ?_ | refine wk_seq fun K hK => ?_ | (refine wk_skip (hK _ _ ?_); clear hK K) | (refine wk_label (hK _ _ ?_); clear hK K) | refine wk_scope ?_ | refine wk_block ?_ | refine wk_cond_t rfl ?_ | refine wk_cond_f rfl ?_ | (refine wk_exit ?_; (repeat (refine blockK_other rfl ?_)); refine blockK_same ?_; try ((repeat ((fail_if_success (refine hK _ _ ?_)); clear hK K)); refine hK _ _ ?_; clear hK K)) | (refine a_bin ?_ ?_ <;> intro _ <;> try (exfalso; omega)) | refine a_ld hl ?_ | (refine a_st hl ?_; clear hl; intro _ hl) | refine a_ix (fun _ => ?_) | fail)
    refine wk_ret (retQ_tmp1 Tryd.results20 (by decide) rfl (by conv => lhs; whnf) ?_)
    refine ⟨?_, he.trans he3⟩
    rw [hdec]
    simp only [*, decide_true, Bool.true_and]
  all_goals (refine wk_ret (retQ_tmp1 Tryd.results20 (by decide) rfl (by conv => lhs; whnf) ?_))
  all_goals (refine ⟨?_, he⟩; rw [hdec]; simp only [*, decide_false, Bool.false_and, Bool.and_false])

set_option maxHeartbeats 2000000 in
theorem refSame_calls : ∀ f : Fm, SameC Tryd.prog 21 f := by
  refine Fm.ind ?_
  intro f ih g w G G' kv kv' hk hk' n1 n2 s1 s2
  have hdec := fm_dec f g
  obtain ⟨a, c, rfl, -⟩ := hk.shape
  obtain ⟨a', c', rfl, -⟩ := hk'.shape
  refine calls_of Tryd.func21 rfl Tryd.ntmps21 rfl ?_
  refine wk_seq fun K hK => ?_
  refine wk_reg ?_
  refine o_box (LH.start w (fun _ => False)) [.int .i64 (f).op, str (f).name, .int .i64 (f).cmp, .int .i64 (f).num, .slice a f.kids.length c] rfl rfl rfl ?_
  intro b1 w1 hb1 hl
  refine o_box hl [.int .i64 (g).op, str (g).name, .int .i64 (g).cmp, .int .i64 (g).num, .slice a' g.kids.length c'] rfl rfl rfl ?_
  clear hl
  intro b2 w2 hb2 hl
  have he := hl.done
  repeat' (first | refine a_mov ?_ | refine a_asg ?_ | refine a_binN ?_ | refine a_notd ?_ | refine a_notb ?_ | refine a_nilc ?_ | refine a_fa ?_ | refine a_ext ?_ | refine a_lenv ?_ | refine a_lens ?_ | refine a_pick_t ?_ | refine a_pick_f ?_ | refine a_not ?_ | refine a_nilf ?_ | (refine o_nil (hK _ _ ?_); clear hK K) | refine wk_reg ?_ | refine wk_seq fun K hK => ?_ | (refine wk_skip (hK _ _ ?_); clear hK K) | (refine wk_label (hK _ _ ?_); clear hK K) | refine wk_scope ?_ | refine wk_block ?_ | refine wk_cond_t rfl ?_ | refine wk_cond_f rfl ?_ | (refine wk_exit ?_; (repeat (refine blockK_other rfl ?_)); refine blockK_same ?_; try ((repeat ((fail_if_success (refine hK _ _ ?_)); clear hK K)); refine hK _ _ ?_; clear hK K)) | (refine a_bin ?_ ?_ <;> intro _ <;> try (exfalso; omega)) | refine a_ld hl ?_ | (refine a_st hl ?_; clear hl; intro _ hl) | refine a_ix (fun _ => ?_) | (refine o_nesT (a := f.name) (b := g.name) rfl rfl rfl ?_ ?_ <;> intro _))
  rotate_right
  · have hab : f.kids.length = g.kids.length := by omega
    have hd2 : decide (f = g) = decide (f.kids = g.kids) := by
      rw [hdec]
      have e1 : f.op = g.op := by omega
      have e2 : f.cmp = g.cmp := by omega
      have e3 : f.num = g.num := by omega
      have e4 : f.name = g.name := by assumption
      rw [e1, e2, e3, e4]
      simp
    refine wk_loopH [] rfl (fun i : Nat => [(2, .pointer (some ⟨b1, 0, none⟩)), (3, .pointer (some ⟨b2, 0, none⟩)), (5, .int .i64 (i : Int))]) (fun i w' => (i ≤ f.kids.length ∧ f.kids.take i = g.kids.take i) ∧ LH w (fun _ => False) w' [(b2, Obj.cells ([.int .i64 (g).op, str (g).name, .int .i64 (g).cmp, .int .i64 (g).num, .slice a' g.kids.length c'] : List Value).toArray 24 (0, 0)), (b1, Obj.cells ([.int .i64 (f).op, str (f).name, .int .i64 (f).cmp, .int .i64 (f).num, .slice a f.kids.length c] : List Value).toArray 24 (0, 0))]) (fun i => f.kids.length - i) 0 ⟨rfl, rfl, rfl, trivial⟩ ⟨⟨by omega, by simp⟩, hl⟩ ?_
    clear hl he
    rintro i t w1 ⟨⟨hi, hpre⟩, hl⟩
    have he := hl.done
    by_cases hi1 : i < f.kids.length
    · have hi2 : i < g.kids.length := by omega
      obtain ⟨bk, ok, kv, hp, hr, hkk⟩ := (hk.ext he).at hi1
      obtain ⟨bl, ol, lv, hp', hr', hll⟩ := (hk'.ext he).at hi2
      have hSk := ih f.kids[i] (List.getElem_mem hi1)
      have hs1 := Short.kid ⟨n1, s1⟩ hi1
      have hs2 := Short.kid ⟨n2, s2⟩ hi2
      have hnx := take_eq hi1 hi2 hpre
      have hne := ne_at hi1 hi2
      generalize f.kids[i] = k at *
      generalize g.kids[i] = l at *
      repeat' (first | refine a_mov ?_ | refine a_asg ?_ | refine a_binN ?_ | refine a_notd ?_ | refine a_notb ?_ | refine a_nilc ?_ | refine a_fa ?_ | refine a_ext ?_ | refine a_lenv ?_ | refine a_lens ?_ | refine a_pick_t ?_ | refine a_pick_f ?_ | refine a_not ?_ | refine a_nilf ?_ | (refine o_nil (hK _ _ ?_); clear hK K) | refine wk_reg ?_ | refine wk_seq fun K hK => ?_ | (refine wk_skip (hK _ _ ?_); clear hK K) | (refine wk_label (hK _ _ ?_); clear hK K) | refine wk_scope ?_ | refine wk_block ?_ | refine wk_cond_t rfl ?_ | refine wk_cond_f rfl ?_ | (refine wk_exit ?_; (repeat (refine blockK_other rfl ?_)); refine blockK_same ?_; try ((repeat ((fail_if_success (refine hK _ _ ?_)); clear hK K)); refine hK _ _ ?_; clear hK K)) | (refine a_bin ?_ ?_ <;> intro _ <;> try (exfalso; omega)) | refine a_ld hl ?_ | (refine a_st hl ?_; clear hl; intro _ hl) | refine a_ix (fun _ => ?_) | fail)
      by_cases hkl : k = l
      · skip
        refine wk_quiet [0, 1, 2, 3, 4, 5, 6, 7, 8, 9, 10, 11] ?_
        repeat' (first | refine q_mov ?_ | refine q_asg ?_ | refine q_fa ?_ | refine q_ext ?_ | refine q_binN ?_ | refine q_notd ?_ | refine q_notb ?_ | refine q_pick_t ?_ | refine q_pick_f ?_ | refine q_nilc ?_ | refine q_skip ?_ | refine q_lens ?_ | refine q_lenv ?_ | refine q_nil ?_ | refine q_ix (fun _ => ?_) | (refine q_bin ?_ ?_ <;> intro _ <;> try (exfalso; omega)) | refine q_ld (fun w_ hw_ => hl.ext hw_) ?_ | refine q_idx (c := 5) i hp ?_ | refine q_idx (c := 5) i hp' ?_ | refine q_all (fun w_ hw_ => hr.ext hw_) ?_ | refine q_all (fun w_ hw_ => hr'.ext hw_) ?_ | (refine q_fn (v := .bool (decide (k = l))) (fun w' hw' => hSk l w' G G' kv lv (hkk.ext hw') (hll.ext hw') hs1.1 hs2.1 hs1.2 hs2.2) ?_; first | rw [decide_eq_true hkl] | rw [decide_eq_false hkl]) | fail)
        intro w2 hw2
        refine hK _ _ ?_
        clear hK K
        repeat' (first | refine a_mov ?_ | refine a_asg ?_ | refine a_binN ?_ | refine a_notd ?_ | refine a_notb ?_ | refine a_nilc ?_ | refine a_fa ?_ | refine a_ext ?_ | refine a_lenv ?_ | refine a_lens ?_ | refine a_pick_t ?_ | refine a_pick_f ?_ | refine a_not ?_ | refine a_nilf ?_ | (refine o_nil (hK _ _ ?_); clear hK K) | refine wk_reg ?_ | refine wk_seq fun K hK => ?_ | (refine wk_skip (hK _ _ ?_); clear hK K) | (refine wk_label (hK _ _ ?_); clear hK K) | refine wk_scope ?_ | refine wk_block ?_ | refine wk_cond_t rfl ?_ | refine wk_cond_f rfl ?_ | (refine wk_exit ?_; (repeat (refine blockK_other rfl ?_)); refine blockK_same ?_; try ((repeat ((fail_if_success (refine hK _ _ ?_)); clear hK K)); refine hK _ _ ?_; clear hK K)) | (refine a_bin ?_ ?_ <;> intro _ <;> try (exfalso; omega)) | refine a_ld hl ?_ | (refine a_st hl ?_; clear hl; intro _ hl) | refine a_ix (fun _ => ?_) | fail)
        exact o_nil ⟨i + 1, ⟨rfl, rfl, rfl, trivial⟩, rfl, ⟨⟨hi1, hnx hkl⟩, hl.ext hw2⟩, by omega⟩
      · skip
        refine wk_quiet [0, 1, 2, 3, 4, 5, 6, 7, 8, 9, 10, 11] ?_
        repeat' (first | refine q_mov ?_ | refine q_asg ?_ | refine q_fa ?_ | refine q_ext ?_ | refine q_binN ?_ | refine q_notd ?_ | refine q_notb ?_ | refine q_pick_t ?_ | refine q_pick_f ?_ | refine q_nilc ?_ | refine q_skip ?_ | refine q_lens ?_ | refine q_lenv ?_ | refine q_nil ?_ | refine q_ix (fun _ => ?_) | (refine q_bin ?_ ?_ <;> intro _ <;> try (exfalso; omega)) | refine q_ld (fun w_ hw_ => hl.ext hw_) ?_ | refine q_idx (c := 5) i hp ?_ | refine q_idx (c := 5) i hp' ?_ | refine q_all (fun w_ hw_ => hr.ext hw_) ?_ | refine q_all (fun w_ hw_ => hr'.ext hw_) ?_ | (refine q_fn (v := .bool (decide (k = l))) (fun w' hw' => hSk l w' G G' kv lv (hkk.ext hw') (hll.ext hw') hs1.1 hs2.1 hs1.2 hs2.2) ?_; first | rw [decide_eq_true hkl] | rw [decide_eq_false hkl]) | fail)
        intro w2 hw2
        refine hK _ _ ?_
        clear hK K
        repeat' (first | refine a_mov ?_ | refine a_asg ?_ | refine a_binN ?_ | refine a_notd ?_ | refine a_notb ?_ | refine a_nilc ?_ | refine a_fa ?_ | refine a_ext ?_ | refine a_lenv ?_ | refine a_lens ?_ | refine a_pick_t ?_ | refine a_pick_f ?_ | refine a_not ?_ | refine a_nilf ?_ | (refine o_nil (hK _ _ ?_); clear hK K) | refine wk_reg ?_ | refine wk_seq fun K hK => ?_ | (refine wk_skip (hK _ _ ?_); clear hK K) | (refine wk_label (hK _ _ ?_); clear hK K) | refine wk_scope ?_ | refine wk_block ?_ | refine wk_cond_t rfl ?_ | refine wk_cond_f rfl ?_ | (refine wk_exit ?_; (repeat (refine blockK_other rfl ?_)); refine blockK_same ?_; try ((repeat ((fail_if_success (refine hK _ _ ?_)); clear hK K)); refine hK _ _ ?_; clear hK K)) | (refine a_bin ?_ ?_ <;> intro _ <;> try (exfalso; omega)) | refine a_ld hl ?_ | (refine a_st hl ?_; clear hl; intro _ hl) | refine a_ix (fun _ => ?_) | fail)
        refine wk_ret (retQ_tmp1 Tryd.results21 (by decide) rfl (by conv => lhs; whnf) ?_)
        exact ⟨by rw [hd2, decide_eq_false (hne hkl)], he.trans hw2⟩
    · have hke : i = f.kids.length := by omega
      rw [hke, List.take_of_length_le (Nat.le_refl _), hab, List.take_of_length_le (Nat.le_refl _)] at hpre
      repeat' (first | refine a_mov ?_ | refine a_asg ?_ | refine a_binN ?_ | refine a_notd ?_ | refine a_notb ?_ | refine a_nilc ?_ | refine a_fa ?_ | refine a_ext ?_ | refine a_lenv ?_ | refine a_lens ?_ | refine a_pick_t ?_ | refine a_pick_f ?_ | refine a_not ?_ | refine a_nilf ?_ | (refine o_nil (hK _ _ ?_); clear hK K) | refine wk_reg ?_ | refine wk_seq fun K hK => ?_ | (refine wk_skip (hK _ _ ?_); clear hK K) | (refine wk_label (hK _ _ ?_); clear hK K) | refine wk_scope ?_ | refine wk_block ?_ | refine wk_cond_t rfl ?_ | refine wk_cond_f rfl ?_ | (refine wk_exit ?_; (repeat (refine blockK_other rfl ?_)); refine blockK_same ?_; try ((repeat ((fail_if_success (refine hK _ _ ?_)); clear hK K)); refine hK _ _ ?_; clear hK K)) | (refine a_bin ?_ ?_ <;> intro _ <;> try (exfalso; omega)) | refine a_ld hl ?_ | (refine a_st hl ?_; clear hl; intro _ hl) | refine a_ix (fun _ => ?_) | fail)
      refine wk_ret (retQ_tmp1 Tryd.results21 (by decide) rfl (by conv => lhs; whnf) ?_)
      exact ⟨by rw [hd2, decide_eq_true hpre], he⟩
  all_goals (refine wk_ret (retQ_tmp1 Tryd.results21 (by decide) rfl (by conv => lhs; whnf) ?_))
  all_goals (refine ⟨?_, he⟩)
  all_goals (rw [decide_eq_false]; rintro rfl; contradiction)
end Go.Proofs

/-
  Formulas: the iterator over all nodes.
-/
set_option linter.unusedVariables false
set_option linter.unusedSimpArgs false
set_option linter.unnecessarySimpa false
set_option maxRecDepth 10000
namespace Go.Proofs
open Go Go.Pd Go.Lexs Go.Fin Go.Fo
attribute [local irreducible] OpsL W RetQ OpsQ OpsC

/-- A later world, of which those blocks may be other ones. -/
def Later (Fp Fp' : Nat → Prop) (w w' : World) : Prop := Upd Fp w w' ∧ ∀ b, Fp' b → Fp b ∨ w.heap.size ≤ b

theorem Later.refl (Fp : Nat → Prop) (w : World) : Later Fp Fp w w := ⟨.refl _ _, fun _ h => .inl h⟩
theorem Later.ext {Fp Fp' : Nat → Prop} {w w' w2 : World} (h : Later Fp Fp' w w') (e : Ext w' w2) : Later Fp Fp' w w2 := ⟨Upd.trans h.1 e fun _ _ h => h.elim, h.2⟩
theorem Later.trans {F1 F2 F3 : Nat → Prop} {w1 w2 w3 : World} (h : Later F1 F2 w1 w2) (h' : Later F2 F3 w2 w3) : Later F1 F3 w1 w3 :=
  ⟨Upd.trans h.1 h'.1 fun b hb hF => (h.2 b hF).elim id fun h => by omega, fun b hb => (h'.2 b hb).elim (h.2 b) fun h2 => .inr (Nat.le_trans h.1.size h2)⟩

/-- What a consumer of nodes does with one. -/
def YieldC (fv : Value) (tot : List Fm) (J : List Fm → (Nat → Prop) → World → Prop) (S : World → Prop) : Prop :=
  ∀ (p : List Fm) (x : Fm) (Fp : Nat → Prop) (w : World) (kv : Value), (∃ rest, tot = p ++ x :: rest) → J p Fp w → (∃ a c, kv = .slice a x.kids.length c) →
    CallV Tryd.prog fv #[.agg (fmL x kv).toArray] w (fun v w2 => (v = .bool true ∧ ∃ Fp', J (p ++ [x]) Fp' w2 ∧ Later Fp Fp' w w2) ∨ (v = .bool false ∧ S w2))

def visitV (by_ bv : Nat) : Value := .func (.func 60) #[] #[.pointer (some ⟨by_, 0, none⟩), .pointer (some ⟨bv, 0, none⟩)]

structure VisEnv (fv : Value) (by_ bv : Nat) (Fp : Nat → Prop) (w : World) : Prop where
  y : ¬ Fp by_
  v : ¬ Fp bv
  cy : w.cell? ⟨by_, 0, none⟩ = some fv
  cv : w.cell? ⟨bv, 0, none⟩ = some (visitV by_ bv)

theorem VisEnv.later {fv : Value} {by_ bv : Nat} {Fp Fp' : Nat → Prop} {w w' : World} (h : VisEnv fv by_ bv Fp w) (e : Later Fp Fp' w w') : VisEnv fv by_ bv Fp' w' := by
  have h1 := lt_of_cell h.cy
  have h2 := lt_of_cell h.cv
  exact ⟨fun hf => (e.2 _ hf).elim h.y fun h => by simp at h1; omega, fun hf => (e.2 _ hf).elim h.v fun h => by simp at h2; omega, e.1.cell h.y h.cy, e.1.cell h.v h.cv⟩

theorem preL_take_succ {ks : List Fm} {i : Nat} (hi : i < ks.length) : preL (ks.take (i + 1)) = preL (ks.take i) ++ pre ks[i] := by rw [List.take_succ_eq_append_getElem hi, preL_snoc]
theorem preL_split {ks : List Fm} {i : Nat} (hi : i < ks.length) : preL ks = preL (ks.take i) ++ (pre ks[i] ++ preL (ks.drop (i + 1))) := by
  have h1 := preL_app (ks.take (i + 1)) (ks.drop (i + 1))
  rw [List.take_append_drop, preL_take_succ hi] at h1
  rw [h1, List.append_assoc]

set_option maxHeartbeats 2000000 in
theorem visit_calls (fv : Value) (by_ bv : Nat) (tot : List Fm) (J : List Fm → (Nat → Prop) → World → Prop) (S : World → Prop)
    (hlt : ∀ p Fp w, J p Fp w → ∀ b, Fp b → b < w.heap.size) (hX : ∀ p Fp w w', J p Fp w → Ext w w' → J p Fp w') (hY : YieldC fv tot J S) :
    ∀ (f : Fm) (p : List Fm) (Fp G : Nat → Prop) (w : World) (kv : Value), KR w G f.kids kv → (∀ b, G b → ¬ Fp b ∧ b < w.heap.size) → VisEnv fv by_ bv Fp w → Short f.kids → (∃ rest, tot = p ++ (pre f ++ rest)) → J p Fp w →
      Calls Tryd.prog 60 #[.agg (fmL f kv).toArray, .pointer (some ⟨by_, 0, none⟩), .pointer (some ⟨bv, 0, none⟩)] w (fun e w' => ∃ v, e = .returned v ∧ ((v = .bool true ∧ ∃ Fp', J (p ++ pre f) Fp' w' ∧ Later Fp Fp' w w') ∨ (v = .bool false ∧ S w'))) := by
  refine Fm.ind ?_
  rintro f ih p Fp G w kv hk hG hE hs ⟨rest, htot⟩ hJ
  have hkv := hk.shape
  obtain ⟨a, c, rfl, -⟩ := hk.shape
  have hlen := hs.1
  have hlt0 := hlt _ _ _ hJ
  refine calls_of Tryd.func60 rfl Tryd.ntmps60 rfl ?_
  refine wk_seq fun K hK => ?_
  refine wk_reg ?_
  refine o_box (LH.start w (fun _ => False)) [.int .i64 (f).op, str (f).name, .int .i64 (f).cmp, .int .i64 (f).num, .slice a f.kids.length c] rfl rfl rfl ?_
  intro b1 w1 hb1 hl
  have he1 := hl.done
  have hE1 := hE.later ((Later.refl Fp w).ext he1)
  repeat' (first | refine a_mov ?_ | refine a_asg ?_ | refine a_binN ?_ | refine a_notd ?_ | refine a_notb ?_ | refine a_nilc ?_ | refine a_fa ?_ | refine a_ext ?_ | refine a_lenv ?_ | refine a_lens ?_ | refine a_pick_t ?_ | refine a_pick_f ?_ | refine a_not ?_ | refine a_nilf ?_ | (refine o_nil (hK _ _ ?_); clear hK K) | refine wk_reg ?_ | refine wk_seq fun K hK => ?_ | (refine wk_skip (hK _ _ ?_); clear hK K) | (refine wk_label (hK _ _ ?_); clear hK K) | refine wk_scope ?_ | refine wk_block ?_ | refine wk_cond_t rfl ?_ | refine wk_cond_f rfl ?_ | (refine wk_exit ?_; (repeat (refine blockK_other rfl ?_)); refine blockK_same ?_; try ((repeat ((fail_if_success (refine hK _ _ ?_)); clear hK K)); refine hK _ _ ?_; clear hK K)) | (refine a_bin ?_ ?_ <;> intro _ <;> try (exfalso; omega)) | refine a_ld hl ?_ | (refine a_st hl ?_; clear hl; intro _ hl) | refine a_ix (fun _ => ?_) | refine o_load rfl rfl rfl hE1.cy ?_ | refine a_all (hl.rowL (vs := [.int .i64 (f).op, str (f).name, .int .i64 (f).cmp, .int .i64 (f).num, .slice a f.kids.length c]) 0 0 5 rfl) ?_)
  refine o_callv (fv := fv) (args := #[.agg ([.int .i64 (f).op, str (f).name, .int .i64 (f).cmp, .int .i64 (f).num, .slice a f.kids.length c] : List Value).toArray]) rfl rfl rfl (hY p f Fp w1 _ ⟨preL f.kids ++ rest, by rw [htot, pre_eq]; simp⟩ (hX _ _ _ _ hJ he1) ⟨a, c, rfl⟩) ?_
  rintro v w2 (⟨rfl, Fp2, hJ2, hL2⟩ | ⟨rfl, hS⟩)
  rotate_left
  · repeat' (first | refine a_mov ?_ | refine a_asg ?_ | refine a_binN ?_ | refine a_notd ?_ | refine a_notb ?_ | refine a_nilc ?_ | refine a_fa ?_ | refine a_ext ?_ | refine a_lenv ?_ | refine a_lens ?_ | refine a_pick_t ?_ | refine a_pick_f ?_ | refine a_not ?_ | refine a_nilf ?_ | (refine o_nil (hK _ _ ?_); clear hK K) | refine wk_reg ?_ | refine wk_seq fun K hK => ?_ | (refine wk_skip (hK _ _ ?_); clear hK K) | (refine wk_label (hK _ _ ?_); clear hK K) | refine wk_scope ?_ | refine wk_block ?_ | refine wk_cond_t rfl ?_ | refine wk_cond_f rfl ?_ | (refine wk_exit ?_; (repeat (refine blockK_other rfl ?_)); refine blockK_same ?_; try ((repeat ((fail_if_success (refine hK _ _ ?_)); clear hK K)); refine hK _ _ ?_; clear hK K)) | (refine a_bin ?_ ?_ <;> intro _ <;> try (exfalso; omega)) | refine a_ld hl ?_ | (refine a_st hl ?_; clear hl; intro _ hl) | refine a_ix (fun _ => ?_) | fail)
    refine wk_ret (retQ_tmp1 Tryd.results60 (by decide) rfl (by conv => lhs; whnf) ?_)
    exact .inr ⟨rfl, hS⟩
  have hb1F : ¬ Fp b1 := fun h => by have := hlt0 b1 h; omega
  have hbk : w2.heap[b1]? = some (Obj.cells ([.int .i64 (f).op, str (f).name, .int .i64 (f).cmp, .int .i64 (f).num, .slice a f.kids.length c] : List Value).toArray 24 (0, 0)) := (hL2.1.same b1 (hl.lt (p := (b1, _)) List.mem_cons_self) hb1F).trans (hl.get 0 rfl)
  have hL : Later Fp Fp2 w w2 := Later.trans ((Later.refl Fp w).ext he1) hL2
  clear hL2
  repeat' (first | refine a_mov ?_ | refine a_asg ?_ | refine a_binN ?_ | refine a_notd ?_ | refine a_notb ?_ | refine a_nilc ?_ | refine a_fa ?_ | refine a_ext ?_ | refine a_lenv ?_ | refine a_lens ?_ | refine a_pick_t ?_ | refine a_pick_f ?_ | refine a_not ?_ | refine a_nilf ?_ | (refine o_nil (hK _ _ ?_); clear hK K) | refine wk_reg ?_ | refine wk_seq fun K hK => ?_ | (refine wk_skip (hK _ _ ?_); clear hK K) | (refine wk_label (hK _ _ ?_); clear hK K) | refine wk_scope ?_ | refine wk_block ?_ | refine wk_cond_t rfl ?_ | refine wk_cond_f rfl ?_ | (refine wk_exit ?_; (repeat (refine blockK_other rfl ?_)); refine blockK_same ?_; try ((repeat ((fail_if_success (refine hK _ _ ?_)); clear hK K)); refine hK _ _ ?_; clear hK K)) | (refine a_bin ?_ ?_ <;> intro _ <;> try (exfalso; omega)) | refine a_ld hl ?_ | (refine a_st hl ?_; clear hl; intro _ hl) | refine a_ix (fun _ => ?_) | refine o_load rfl rfl rfl (cell_of_block hbk rfl) ?_)
  refine wk_loopH [] rfl (fun i : Nat => [(1, .pointer (some ⟨by_, 0, none⟩)), (2, .pointer (some ⟨bv, 0, none⟩)), (12, .slice a f.kids.length c), (13, .int .i64 (f.kids.length : Int)), (14, .int .i64 (i : Int))]) (fun i w' => i ≤ f.kids.length ∧ ∃ Fp', J (p ++ f :: preL (f.kids.take i)) Fp' w' ∧ Later Fp Fp' w w') (fun i => f.kids.length - i) 0 ⟨rfl, rfl, rfl, rfl, rfl, trivial⟩ ⟨by omega, Fp2, hJ2, hL⟩ ?_
  clear hbk hJ2 hL hl hE1 he1 w2 w1
  rintro i t w1 ⟨hi, Fp1, hJ1, hL1⟩
  by_cases hi1 : i < f.kids.length
  · have hG1 : ∀ b, G b → ¬ Fp1 b ∧ b < w1.heap.size := fun b hb => ⟨fun h => (hL1.2 b h).elim (hG b hb).1 fun h => by have := (hG b hb).2; omega, Nat.lt_of_lt_of_le (hG b hb).2 hL1.1.size⟩
    have hE1 := hE.later hL1
    obtain ⟨bk, ok, kv, hp, hr, hkk⟩ := (hk.upd hL1.1 (fun b hb => (hG b hb).1)).at hi1
    have hsplit := preL_split hi1
    have htk := preL_take_succ hi1
    have hsk := hs.kid hi1
    have ihk := ih f.kids[i] (List.getElem_mem hi1)
    have hone := fmL_one hkk
    rw [pre_eq f, hsplit] at htot
    generalize f.kids[i] = k at *
    repeat' (first | refine a_mov ?_ | refine a_asg ?_ | refine a_binN ?_ | refine a_notd ?_ | refine a_notb ?_ | refine a_nilc ?_ | refine a_fa ?_ | refine a_ext ?_ | refine a_lenv ?_ | refine a_lens ?_ | refine a_pick_t ?_ | refine a_pick_f ?_ | refine a_not ?_ | refine a_nilf ?_ | (refine o_nil (hK _ _ ?_); clear hK K) | refine wk_reg ?_ | refine wk_seq fun K hK => ?_ | (refine wk_skip (hK _ _ ?_); clear hK K) | (refine wk_label (hK _ _ ?_); clear hK K) | refine wk_scope ?_ | refine wk_block ?_ | refine wk_cond_t rfl ?_ | refine wk_cond_f rfl ?_ | (refine wk_exit ?_; (repeat (refine blockK_other rfl ?_)); refine blockK_same ?_; try ((repeat ((fail_if_success (refine hK _ _ ?_)); clear hK K)); refine hK _ _ ?_; clear hK K)) | (refine a_bin ?_ ?_ <;> intro _ <;> try (exfalso; omega)) | refine a_ld hl ?_ | (refine a_st hl ?_; clear hl; intro _ hl) | refine a_ix (fun _ => ?_) | refine a_idx (c := 5) i hp ?_ | refine a_all hr ?_)
    refine o_alloc (LH.start w1 (fun _ => False)) [.int .i64 0, .string ⟨#[]⟩, .int .i64 0, .int .i64 0, .slice none 0 0] rfl rfl ?_
    intro b2 w2 hb2 hl
    refine o_putN (us := [.int .i64 (k).op, str (k).name, .int .i64 (k).cmp, .int .i64 (k).num, kv]) hl rfl rfl rfl hone rfl (.all rfl rfl) ?_
    clear hl
    intro w3 hl
    have he3 := hl.done
    have hE3 := hE1.later ((Later.refl Fp1 w1).ext he3)
    repeat' (first | refine a_mov ?_ | refine a_asg ?_ | refine a_binN ?_ | refine a_notd ?_ | refine a_notb ?_ | refine a_nilc ?_ | refine a_fa ?_ | refine a_ext ?_ | refine a_lenv ?_ | refine a_lens ?_ | refine a_pick_t ?_ | refine a_pick_f ?_ | refine a_not ?_ | refine a_nilf ?_ | (refine o_nil (hK _ _ ?_); clear hK K) | refine wk_reg ?_ | refine wk_seq fun K hK => ?_ | (refine wk_skip (hK _ _ ?_); clear hK K) | (refine wk_label (hK _ _ ?_); clear hK K) | refine wk_scope ?_ | refine wk_block ?_ | refine wk_cond_t rfl ?_ | refine wk_cond_f rfl ?_ | (refine wk_exit ?_; (repeat (refine blockK_other rfl ?_)); refine blockK_same ?_; try ((repeat ((fail_if_success (refine hK _ _ ?_)); clear hK K)); refine hK _ _ ?_; clear hK K)) | (refine a_bin ?_ ?_ <;> intro _ <;> try (exfalso; omega)) | refine a_ld hl ?_ | (refine a_st hl ?_; clear hl; intro _ hl) | refine a_ix (fun _ => ?_) | refine o_load rfl rfl rfl hE3.cv ?_ | refine a_all (hl.rowL (vs := [.int .i64 (k).op, str (k).name, .int .i64 (k).cmp, .int .i64 (k).num, kv]) 0 0 5 rfl) ?_)
    refine a_fc #[.agg ([.int .i64 (k).op, str (k).name, .int .i64 (k).cmp, .int .i64 (k).num, kv] : List Value).toArray] #[.pointer (some ⟨by_, 0, none⟩), .pointer (some ⟨bv, 0, none⟩)] #[.agg (fmL k kv).toArray, .pointer (some ⟨by_, 0, none⟩), .pointer (some ⟨bv, 0, none⟩)] rfl (ihk (p ++ f :: preL (f.kids.take i)) Fp1 G w3 kv (hkk.ext he3) (fun b hb => ⟨(hG1 b hb).1, Nat.lt_of_lt_of_le (hG1 b hb).2 he3.size⟩) hE3 hsk ⟨preL (f.kids.drop (i + 1)) ++ rest, by rw [htot]; simp⟩ (hX _ _ _ _ hJ1 he3)) ?_
    rintro v w4 (⟨rfl, Fp4, hJ4, hL4⟩ | ⟨rfl, hS⟩)
    · repeat' (first | refine a_mov ?_ | refine a_asg ?_ | refine a_binN ?_ | refine a_notd ?_ | refine a_notb ?_ | refine a_nilc ?_ | refine a_fa ?_ | refine a_ext ?_ | refine a_lenv ?_ | refine a_lens ?_ | refine a_pick_t ?_ | refine a_pick_f ?_ | refine a_not ?_ | refine a_nilf ?_ | (refine o_nil (hK _ _ ?_); clear hK K) | refine wk_reg ?_ | refine wk_seq fun K hK => ?_ | (refine wk_skip (hK _ _ ?_); clear hK K) | (refine wk_label (hK _ _ ?_); clear hK K) | refine wk_scope ?_ | refine wk_block ?_ | refine wk_cond_t rfl ?_ | refine wk_cond_f rfl ?_ | (refine wk_exit ?_; (repeat (refine blockK_other rfl ?_)); refine blockK_same ?_; try ((repeat ((fail_if_success (refine hK _ _ ?_)); clear hK K)); refine hK _ _ ?_; clear hK K)) | (refine a_bin ?_ ?_ <;> intro _ <;> try (exfalso; omega)) | refine a_ld hl ?_ | (refine a_st hl ?_; clear hl; intro _ hl) | refine a_ix (fun _ => ?_) | fail)
      refine o_nil ⟨i + 1, ⟨rfl, rfl, rfl, rfl, rfl, trivial⟩, rfl, ⟨hi1, Fp4, ?_, hL1.trans (Later.trans ((Later.refl Fp1 w1).ext he3) hL4)⟩, by omega⟩
      rw [htk, ← List.cons_append, ← List.append_assoc]
      exact hJ4
    · repeat' (first | refine a_mov ?_ | refine a_asg ?_ | refine a_binN ?_ | refine a_notd ?_ | refine a_notb ?_ | refine a_nilc ?_ | refine a_fa ?_ | refine a_ext ?_ | refine a_lenv ?_ | refine a_lens ?_ | refine a_pick_t ?_ | refine a_pick_f ?_ | refine a_not ?_ | refine a_nilf ?_ | (refine o_nil (hK _ _ ?_); clear hK K) | refine wk_reg ?_ | refine wk_seq fun K hK => ?_ | (refine wk_skip (hK _ _ ?_); clear hK K) | (refine wk_label (hK _ _ ?_); clear hK K) | refine wk_scope ?_ | refine wk_block ?_ | refine wk_cond_t rfl ?_ | refine wk_cond_f rfl ?_ | (refine wk_exit ?_; (repeat (refine blockK_other rfl ?_)); refine blockK_same ?_; try ((repeat ((fail_if_success (refine hK _ _ ?_)); clear hK K)); refine hK _ _ ?_; clear hK K)) | (refine a_bin ?_ ?_ <;> intro _ <;> try (exfalso; omega)) | refine a_ld hl ?_ | (refine a_st hl ?_; clear hl; intro _ hl) | refine a_ix (fun _ => ?_) | fail)
      refine wk_ret (retQ_tmp1 Tryd.results60 (by decide) rfl (by conv => lhs; whnf) ?_)
      exact .inr ⟨rfl, hS⟩
  · have hke : i = f.kids.length := by omega
    rw [hke, List.take_of_length_le (Nat.le_refl _)] at hJ1
    repeat' (first | refine a_mov ?_ | refine a_asg ?_ | refine a_binN ?_ | refine a_notd ?_ | refine a_notb ?_ | refine a_nilc ?_ | refine a_fa ?_ | refine a_ext ?_ | refine a_lenv ?_ | refine a_lens ?_ | refine a_pick_t ?_ | refine a_pick_f ?_ | refine a_not ?_ | refine a_nilf ?_ | (refine o_nil (hK _ _ ?_); clear hK K) | refine wk_reg ?_ | refine wk_seq fun K hK => ?_ | (refine wk_skip (hK _ _ ?_); clear hK K) | (refine wk_label (hK _ _ ?_); clear hK K) | refine wk_scope ?_ | refine wk_block ?_ | refine wk_cond_t rfl ?_ | refine wk_cond_f rfl ?_ | (refine wk_exit ?_; (repeat (refine blockK_other rfl ?_)); refine blockK_same ?_; try ((repeat ((fail_if_success (refine hK _ _ ?_)); clear hK K)); refine hK _ _ ?_; clear hK K)) | (refine a_bin ?_ ?_ <;> intro _ <;> try (exfalso; omega)) | refine a_ld hl ?_ | (refine a_st hl ?_; clear hl; intro _ hl) | refine a_ix (fun _ => ?_) | fail)
    refine wk_ret (retQ_tmp1 Tryd.results60 (by decide) rfl (by conv => lhs; whnf) ?_)
    exact .inl ⟨rfl, Fp1, by rw [pre_eq]; exact hJ1, hL1⟩
end Go.Proofs

/-
  Formulas: nodes, lists of texts, Terms.
-/
set_option linter.unusedVariables false
set_option linter.unusedSimpArgs false
set_option linter.unnecessarySimpa false
set_option maxRecDepth 10000
namespace Go.Proofs
open Go Go.Pd Go.Lexs Go.Fin Go.Fo
attribute [local irreducible] OpsL W RetQ OpsQ OpsC

theorem nodes_calls (f : Fm) (kv : Value) (w : World) (hkv : ∃ a c, kv = .slice a f.kids.length c) : Calls Tryd.prog 41 #[.agg (fmL f kv).toArray] w (fun e w' => ∃ v, e = .returned v ∧ ∃ b, v = .func (.func 59) #[] #[.pointer (some ⟨b, 0, none⟩)] ∧ LH w (fun _ => False) w' [(b, Obj.cells ([.int .i64 (f).op, str (f).name, .int .i64 (f).cmp, .int .i64 (f).num, kv] : List Value).toArray 24 (0, 0))]) := by
  obtain ⟨a, c, rfl⟩ := hkv
  refine calls_of Tryd.func41 rfl Tryd.ntmps41 rfl ?_
  refine wk_seq fun K hK => ?_
  refine wk_reg ?_
  refine o_box (LH.start w (fun _ => False)) [.int .i64 (f).op, str (f).name, .int .i64 (f).cmp, .int .i64 (f).num, .slice a f.kids.length c] rfl rfl rfl ?_
  intro b1 w1 hb1 hl
  repeat' (first | refine a_mov ?_ | refine a_asg ?_ | refine a_binN ?_ | refine a_notd ?_ | refine a_notb ?_ | refine a_nilc ?_ | refine a_fa ?_ | refine a_ext ?_ | refine a_lenv ?_ | refine a_lens ?_ | refine a_pick_t ?_ | refine a_pick_f ?_ | refine a_not ?_ | refine a_nilf ?_ | (refine o_nil (hK _ _ ?_); clear hK K) | refine wk_reg ?_ | refine wk_seq fun K hK => ?_ | (refine wk_skip (hK _ _ ?_); clear hK K) | (refine wk_label (hK _ _ ?_); clear hK K) | refine wk_scope ?_ | refine wk_block ?_ | refine wk_cond_t rfl ?_ | refine wk_cond_f rfl ?_ | (refine wk_exit ?_; (repeat (refine blockK_other rfl ?_)); refine blockK_same ?_; try ((repeat ((fail_if_success (refine hK _ _ ?_)); clear hK K)); refine hK _ _ ?_; clear hK K)) | (refine a_bin ?_ ?_ <;> intro _ <;> try (exfalso; omega)) | refine a_ld hl ?_ | (refine a_st hl ?_; clear hl; intro _ hl) | refine a_ix (fun _ => ?_) | fail)
  refine o_mf [] [.pointer (some ⟨b1, 0, none⟩)] rfl rfl rfl ?_
  repeat' (first | refine a_mov ?_ | refine a_asg ?_ | refine a_binN ?_ | refine a_notd ?_ | refine a_notb ?_ | refine a_nilc ?_ | refine a_fa ?_ | refine a_ext ?_ | refine a_lenv ?_ | refine a_lens ?_ | refine a_pick_t ?_ | refine a_pick_f ?_ | refine a_not ?_ | refine a_nilf ?_ | (refine o_nil (hK _ _ ?_); clear hK K) | refine wk_reg ?_ | refine wk_seq fun K hK => ?_ | (refine wk_skip (hK _ _ ?_); clear hK K) | (refine wk_label (hK _ _ ?_); clear hK K) | refine wk_scope ?_ | refine wk_block ?_ | refine wk_cond_t rfl ?_ | refine wk_cond_f rfl ?_ | (refine wk_exit ?_; (repeat (refine blockK_other rfl ?_)); refine blockK_same ?_; try ((repeat ((fail_if_success (refine hK _ _ ?_)); clear hK K)); refine hK _ _ ?_; clear hK K)) | (refine a_bin ?_ ?_ <;> intro _ <;> try (exfalso; omega)) | refine a_ld hl ?_ | (refine a_st hl ?_; clear hl; intro _ hl) | refine a_ix (fun _ => ?_) | fail)
  refine wk_ret (retQ_tmp1 Tryd.results41 (by decide) rfl (by conv => lhs; whnf) ?_)
  exact ⟨b1, rfl, hl⟩

set_option maxHeartbeats 1000000 in
theorem nodes1_calls (fv : Value) (f : Fm) (kv : Value) (b0 : Nat) (J : List Fm → (Nat → Prop) → World → Prop) (S : World → Prop)
    (hlt : ∀ p Fp w, J p Fp w → ∀ b, Fp b → b < w.heap.size) (hX : ∀ p Fp w w', J p Fp w → Ext w w' → J p Fp w') (hY : YieldC fv (pre f) J S)
    (Fp G : Nat → Prop) (w : World) (hfv : Cell1 fv) (hk : KR w G f.kids kv) (hG : ∀ b, G b → ¬ Fp b ∧ b < w.heap.size) (hs : Short f.kids) (h0 : Row w b0 0 (fmL f kv)) (hJ : J [] Fp w) :
    Calls Tryd.prog 59 #[fv, .pointer (some ⟨b0, 0, none⟩)] w (fun e w' => ∃ v, e = .returned v ∧ ((∃ Fp', J (pre f) Fp' w' ∧ Later Fp Fp' w w') ∨ S w')) := by
  obtain ⟨a, c, rfl, -⟩ := hk.shape
  have hlt0 := hlt _ _ _ hJ
  refine calls_of Tryd.func59 rfl Tryd.ntmps59 rfl ?_
  refine wk_seq fun K hK => ?_
  refine wk_reg ?_
  refine o_box (LH.start w (fun _ => False)) [fv] rfl rfl hfv.1 ?_
  intro by_ w1 hby hl
  repeat' (first | refine a_mov ?_ | refine a_asg ?_ | refine a_binN ?_ | refine a_notd ?_ | refine a_notb ?_ | refine a_nilc ?_ | refine a_fa ?_ | refine a_ext ?_ | refine a_lenv ?_ | refine a_lens ?_ | refine a_pick_t ?_ | refine a_pick_f ?_ | refine a_not ?_ | refine a_nilf ?_ | (refine o_nil (hK _ _ ?_); clear hK K) | refine wk_reg ?_ | refine wk_seq fun K hK => ?_ | (refine wk_skip (hK _ _ ?_); clear hK K) | (refine wk_label (hK _ _ ?_); clear hK K) | refine wk_scope ?_ | refine wk_block ?_ | refine wk_cond_t rfl ?_ | refine wk_cond_f rfl ?_ | (refine wk_exit ?_; (repeat (refine blockK_other rfl ?_)); refine blockK_same ?_; try ((repeat ((fail_if_success (refine hK _ _ ?_)); clear hK K)); refine hK _ _ ?_; clear hK K)) | (refine a_bin ?_ ?_ <;> intro _ <;> try (exfalso; omega)) | refine a_ld hl ?_ | (refine a_st hl ?_; clear hl; intro _ hl) | refine a_ix (fun _ => ?_) | fail)
  refine o_alloc hl [.nilFunc] rfl rfl ?_
  clear hl
  intro bv w2 hbv hl
  repeat' (first | refine a_mov ?_ | refine a_asg ?_ | refine a_binN ?_ | refine a_notd ?_ | refine a_notb ?_ | refine a_nilc ?_ | refine a_fa ?_ | refine a_ext ?_ | refine a_lenv ?_ | refine a_lens ?_ | refine a_pick_t ?_ | refine a_pick_f ?_ | refine a_not ?_ | refine a_nilf ?_ | (refine o_nil (hK _ _ ?_); clear hK K) | refine wk_reg ?_ | refine wk_seq fun K hK => ?_ | (refine wk_skip (hK _ _ ?_); clear hK K) | (refine wk_label (hK _ _ ?_); clear hK K) | refine wk_scope ?_ | refine wk_block ?_ | refine wk_cond_t rfl ?_ | refine wk_cond_f rfl ?_ | (refine wk_exit ?_; (repeat (refine blockK_other rfl ?_)); refine blockK_same ?_; try ((repeat ((fail_if_success (refine hK _ _ ?_)); clear hK K)); refine hK _ _ ?_; clear hK K)) | (refine a_bin ?_ ?_ <;> intro _ <;> try (exfalso; omega)) | refine a_ld hl ?_ | (refine a_st hl ?_; clear hl; intro _ hl) | refine a_ix (fun _ => ?_) | fail)
  refine o_mf [] [.pointer (some ⟨by_, 0, none⟩), .pointer (some ⟨bv, 0, none⟩)] rfl rfl rfl ?_
  refine o_put1 hl rfl rfl (by conv => lhs; whnf) ⟨rfl, rfl⟩ rfl (.here rfl rfl) ?_
  clear hl
  intro w3 hl
  have he := hl.done
  have hE : VisEnv fv by_ bv Fp w3 := ⟨fun h => by have := hlt0 _ h; omega, fun h => by have := hlt0 _ h; omega, hl.cell 1 rfl rfl, hl.cell 0 rfl rfl⟩
  repeat' (first | refine a_mov ?_ | refine a_asg ?_ | refine a_binN ?_ | refine a_notd ?_ | refine a_notb ?_ | refine a_nilc ?_ | refine a_fa ?_ | refine a_ext ?_ | refine a_lenv ?_ | refine a_lens ?_ | refine a_pick_t ?_ | refine a_pick_f ?_ | refine a_not ?_ | refine a_nilf ?_ | (refine o_nil (hK _ _ ?_); clear hK K) | refine wk_reg ?_ | refine wk_seq fun K hK => ?_ | (refine wk_skip (hK _ _ ?_); clear hK K) | (refine wk_label (hK _ _ ?_); clear hK K) | refine wk_scope ?_ | refine wk_block ?_ | refine wk_cond_t rfl ?_ | refine wk_cond_f rfl ?_ | (refine wk_exit ?_; (repeat (refine blockK_other rfl ?_)); refine blockK_same ?_; try ((repeat ((fail_if_success (refine hK _ _ ?_)); clear hK K)); refine hK _ _ ?_; clear hK K)) | (refine a_bin ?_ ?_ <;> intro _ <;> try (exfalso; omega)) | refine a_ld hl ?_ | (refine a_st hl ?_; clear hl; intro _ hl) | refine a_ix (fun _ => ?_) | refine o_load rfl rfl rfl hE.cv ?_ | refine a_all (vs := [.int .i64 (f).op, str (f).name, .int .i64 (f).cmp, .int .i64 (f).num, .slice a f.kids.length c]) (h0.ext he) ?_)
  refine a_fc #[.agg ([.int .i64 (f).op, str (f).name, .int .i64 (f).cmp, .int .i64 (f).num, .slice a f.kids.length c] : List Value).toArray] #[.pointer (some ⟨by_, 0, none⟩), .pointer (some ⟨bv, 0, none⟩)] #[.agg (fmL f (.slice a f.kids.length c)).toArray, .pointer (some ⟨by_, 0, none⟩), .pointer (some ⟨bv, 0, none⟩)] rfl (visit_calls fv by_ bv (pre f) J S hlt hX hY f [] Fp G w3 _ (hk.ext he) (fun b hb => ⟨(hG b hb).1, Nat.lt_of_lt_of_le (hG b hb).2 he.size⟩) hE hs ⟨[], by simp⟩ (hX _ _ _ _ hJ he)) ?_
  rintro v w4 (⟨rfl, Fp4, hJ4, hL4⟩ | ⟨rfl, hS⟩)
  · repeat' (first | refine a_mov ?_ | refine a_asg ?_ | refine a_binN ?_ | refine a_notd ?_ | refine a_notb ?_ | refine a_nilc ?_ | refine a_fa ?_ | refine a_ext ?_ | refine a_lenv ?_ | refine a_lens ?_ | refine a_pick_t ?_ | refine a_pick_f ?_ | refine a_not ?_ | refine a_nilf ?_ | (refine o_nil (hK _ _ ?_); clear hK K) | refine wk_reg ?_ | refine wk_seq fun K hK => ?_ | (refine wk_skip (hK _ _ ?_); clear hK K) | (refine wk_label (hK _ _ ?_); clear hK K) | refine wk_scope ?_ | refine wk_block ?_ | refine wk_cond_t rfl ?_ | refine wk_cond_f rfl ?_ | (refine wk_exit ?_; (repeat (refine blockK_other rfl ?_)); refine blockK_same ?_; try ((repeat ((fail_if_success (refine hK _ _ ?_)); clear hK K)); refine hK _ _ ?_; clear hK K)) | (refine a_bin ?_ ?_ <;> intro _ <;> try (exfalso; omega)) | refine a_ld hl ?_ | (refine a_st hl ?_; clear hl; intro _ hl) | refine a_ix (fun _ => ?_) | fail)
    exact o_nil (retQ_tmp0 rfl rfl (.inl ⟨Fp4, hJ4, Later.trans ((Later.refl Fp w).ext he) hL4⟩))
  · repeat' (first | refine a_mov ?_ | refine a_asg ?_ | refine a_binN ?_ | refine a_notd ?_ | refine a_notb ?_ | refine a_nilc ?_ | refine a_fa ?_ | refine a_ext ?_ | refine a_lenv ?_ | refine a_lens ?_ | refine a_pick_t ?_ | refine a_pick_f ?_ | refine a_not ?_ | refine a_nilf ?_ | (refine o_nil (hK _ _ ?_); clear hK K) | refine wk_reg ?_ | refine wk_seq fun K hK => ?_ | (refine wk_skip (hK _ _ ?_); clear hK K) | (refine wk_label (hK _ _ ?_); clear hK K) | refine wk_scope ?_ | refine wk_block ?_ | refine wk_cond_t rfl ?_ | refine wk_cond_f rfl ?_ | (refine wk_exit ?_; (repeat (refine blockK_other rfl ?_)); refine blockK_same ?_; try ((repeat ((fail_if_success (refine hK _ _ ?_)); clear hK K)); refine hK _ _ ?_; clear hK K)) | (refine a_bin ?_ ?_ <;> intro _ <;> try (exfalso; omega)) | refine a_ld hl ?_ | (refine a_st hl ?_; clear hl; intro _ hl) | refine a_ix (fun _ => ?_) | fail)
    exact o_nil (retQ_tmp0 rfl rfl (.inr hS))

/-! ### Lists of texts -/
def strL (s : List UInt8) : List Value := [str s]
theorem strL_len (s : List UInt8) : (strL s).length = 1 := rfl
def strsL (T : List (List UInt8)) : List Value := T.flatMap strL
theorem strsL_len (T : List (List UInt8)) : (strsL T).length = T.length * 1 := flat_length strL_len T
theorem strL_one (s : List UInt8) : (strL s).all Value.oneCell' = true := by simp only [strL, str_eq]; rfl

theorem Sl.text {w : World} {a : Option Addr} {m c : Nat} {T : List (List UInt8)} (hv : Sl w (.slice a m c) 1 (strsL T)) (hm : m = T.length) {k : Nat} (hk : k < T.length) : ∃ b o, a = some ⟨b, o, none⟩ ∧ Row w b (o + k * 1) [str T[k]] := by
  subst hm
  obtain ⟨b, o, hp, hr⟩ := hv.at (strsL_len T) (by omega) (by omega)
  exact ⟨b, o, hp, hr.elem strL_len (k := k) (t := T[k]) (by simp)⟩

theorem contains_take {T : List (List UInt8)} {s : List UInt8} (h : ∀ j (hj : j < T.length), T[j] ≠ s) : T.contains s = false := by
  rw [← Bool.not_eq_true, List.contains_iff_mem]
  intro hm
  obtain ⟨j, hj, he⟩ := List.mem_iff_getElem.1 hm
  exact h j hj he

theorem in_calls {T : List (List UInt8)} {v : Value} {w : World} (hv : Sl w v 1 (strsL T)) (hlen : T.length ≤ 9223372036854775806) (s : List UInt8) :
    Calls Tryd.prog 31 #[v, str s] w (fun e w' => ∃ x, e = .returned x ∧ x = .bool (T.contains s) ∧ w' = w) := by
  obtain ⟨pa, ca, rfl, -⟩ := hv.shape (strsL_len T) (by omega)
  refine calls_of Tryd.func31 rfl Tryd.ntmps31 rfl ?_
  repeat' (first | refine a_mov ?_ | refine a_asg ?_ | refine a_binN ?_ | refine a_notd ?_ | refine a_notb ?_ | refine a_nilc ?_ | refine a_fa ?_ | refine a_ext ?_ | refine a_lenv ?_ | refine a_lens ?_ | refine a_pick_t ?_ | refine a_pick_f ?_ | refine a_not ?_ | refine a_nilf ?_ | (refine o_nil (hK _ _ ?_); clear hK K) | refine wk_reg ?_ | refine wk_seq fun K hK => ?_ | (refine wk_skip (hK _ _ ?_); clear hK K) | (refine wk_label (hK _ _ ?_); clear hK K) | refine wk_scope ?_ | refine wk_block ?_ | refine wk_cond_t rfl ?_ | refine wk_cond_f rfl ?_ | (refine wk_exit ?_; (repeat (refine blockK_other rfl ?_)); refine blockK_same ?_; try ((repeat ((fail_if_success (refine hK _ _ ?_)); clear hK K)); refine hK _ _ ?_; clear hK K)) | (refine a_bin ?_ ?_ <;> intro _ <;> try (exfalso; omega)) | refine a_ld hl ?_ | (refine a_st hl ?_; clear hl; intro _ hl) | refine a_ix (fun _ => ?_) | fail)
  refine wk_loopH [] rfl (fun k : Nat => [(0, .slice pa T.length ca), (1, str s), (5, .int .i64 (k : Int))]) (fun k w' => (k ≤ T.length ∧ ∀ j (hj : j < T.length), j < k → T[j] ≠ s) ∧ w' = w) (fun k => T.length - k) 0 ⟨rfl, rfl, rfl, trivial⟩ ⟨⟨by omega, fun j hj h => by omega⟩, rfl⟩ ?_
  rintro k t w2 ⟨⟨hk, hno⟩, hw⟩
  obtain rfl : w2 = w := hw
  by_cases hk1 : k < T.length
  · obtain ⟨b, o, hp, hr⟩ := Sl.text hv rfl hk1
    repeat' (first | refine a_mov ?_ | refine a_asg ?_ | refine a_binN ?_ | refine a_notd ?_ | refine a_notb ?_ | refine a_nilc ?_ | refine a_fa ?_ | refine a_ext ?_ | refine a_lenv ?_ | refine a_lens ?_ | refine a_pick_t ?_ | refine a_pick_f ?_ | refine a_not ?_ | refine a_nilf ?_ | (refine o_nil (hK _ _ ?_); clear hK K) | refine wk_reg ?_ | refine wk_seq fun K hK => ?_ | (refine wk_skip (hK _ _ ?_); clear hK K) | (refine wk_label (hK _ _ ?_); clear hK K) | refine wk_scope ?_ | refine wk_block ?_ | refine wk_cond_t rfl ?_ | refine wk_cond_f rfl ?_ | (refine wk_exit ?_; (repeat (refine blockK_other rfl ?_)); refine blockK_same ?_; try ((repeat ((fail_if_success (refine hK _ _ ?_)); clear hK K)); refine hK _ _ ?_; clear hK K)) | (refine a_bin ?_ ?_ <;> intro _ <;> try (exfalso; omega)) | refine a_ld hl ?_ | (refine a_st hl ?_; clear hl; intro _ hl) | refine a_ix (fun _ => ?_) | refine a_idx (c := 1) k hp ?_ | refine a_row hr ?_)
    refine o_eqsT (a := T[k]) (b := s) rfl rfl rfl ?_ ?_
    · intro hid
      repeat' (first | refine a_mov ?_ | refine a_asg ?_ | refine a_binN ?_ | refine a_notd ?_ | refine a_notb ?_ | refine a_nilc ?_ | refine a_fa ?_ | refine a_ext ?_ | refine a_lenv ?_ | refine a_lens ?_ | refine a_pick_t ?_ | refine a_pick_f ?_ | refine a_not ?_ | refine a_nilf ?_ | (refine o_nil (hK _ _ ?_); clear hK K) | refine wk_reg ?_ | refine wk_seq fun K hK => ?_ | (refine wk_skip (hK _ _ ?_); clear hK K) | (refine wk_label (hK _ _ ?_); clear hK K) | refine wk_scope ?_ | refine wk_block ?_ | refine wk_cond_t rfl ?_ | refine wk_cond_f rfl ?_ | (refine wk_exit ?_; (repeat (refine blockK_other rfl ?_)); refine blockK_same ?_; try ((repeat ((fail_if_success (refine hK _ _ ?_)); clear hK K)); refine hK _ _ ?_; clear hK K)) | (refine a_bin ?_ ?_ <;> intro _ <;> try (exfalso; omega)) | refine a_ld hl ?_ | (refine a_st hl ?_; clear hl; intro _ hl) | refine a_ix (fun _ => ?_) | fail)
      refine wk_ret (retQ_tmp1 Tryd.results31 (by decide) rfl (by conv => lhs; whnf) ?_)
      refine ⟨?_, rfl⟩
      rw [show T.contains s = true from List.contains_iff_mem.2 (hid ▸ List.getElem_mem hk1)]
    · intro hid
      repeat' (first | refine a_mov ?_ | refine a_asg ?_ | refine a_binN ?_ | refine a_notd ?_ | refine a_notb ?_ | refine a_nilc ?_ | refine a_fa ?_ | refine a_ext ?_ | refine a_lenv ?_ | refine a_lens ?_ | refine a_pick_t ?_ | refine a_pick_f ?_ | refine a_not ?_ | refine a_nilf ?_ | (refine o_nil (hK _ _ ?_); clear hK K) | refine wk_reg ?_ | refine wk_seq fun K hK => ?_ | (refine wk_skip (hK _ _ ?_); clear hK K) | (refine wk_label (hK _ _ ?_); clear hK K) | refine wk_scope ?_ | refine wk_block ?_ | refine wk_cond_t rfl ?_ | refine wk_cond_f rfl ?_ | (refine wk_exit ?_; (repeat (refine blockK_other rfl ?_)); refine blockK_same ?_; try ((repeat ((fail_if_success (refine hK _ _ ?_)); clear hK K)); refine hK _ _ ?_; clear hK K)) | (refine a_bin ?_ ?_ <;> intro _ <;> try (exfalso; omega)) | refine a_ld hl ?_ | (refine a_st hl ?_; clear hl; intro _ hl) | refine a_ix (fun _ => ?_) | fail)
      exact o_nil ⟨k + 1, ⟨rfl, rfl, rfl, trivial⟩, rfl, ⟨⟨hk1, fun j hj hjk => by
        by_cases e : j = k
        · subst e; exact hid
        · exact hno j hj (by omega)⟩, rfl⟩, by omega⟩
  · have hst := contains_take (T := T) (s := s) fun j hj => hno j hj (by omega)
    clear hno
    repeat' (first | refine a_mov ?_ | refine a_asg ?_ | refine a_binN ?_ | refine a_notd ?_ | refine a_notb ?_ | refine a_nilc ?_ | refine a_fa ?_ | refine a_ext ?_ | refine a_lenv ?_ | refine a_lens ?_ | refine a_pick_t ?_ | refine a_pick_f ?_ | refine a_not ?_ | refine a_nilf ?_ | (refine o_nil (hK _ _ ?_); clear hK K) | refine wk_reg ?_ | refine wk_seq fun K hK => ?_ | (refine wk_skip (hK _ _ ?_); clear hK K) | (refine wk_label (hK _ _ ?_); clear hK K) | refine wk_scope ?_ | refine wk_block ?_ | refine wk_cond_t rfl ?_ | refine wk_cond_f rfl ?_ | (refine wk_exit ?_; (repeat (refine blockK_other rfl ?_)); refine blockK_same ?_; try ((repeat ((fail_if_success (refine hK _ _ ?_)); clear hK K)); refine hK _ _ ?_; clear hK K)) | (refine a_bin ?_ ?_ <;> intro _ <;> try (exfalso; omega)) | refine a_ld hl ?_ | (refine a_st hl ?_; clear hl; intro _ hl) | refine a_ix (fun _ => ?_) | fail)
    refine wk_ret (retQ_tmp1 Tryd.results31 (by decide) rfl (by conv => lhs; whnf) ?_)
    exact ⟨by rw [hst], rfl⟩

theorem index_calls {T : List (List UInt8)} {v : Value} {w : World} (hv : Sl w v 1 (strsL T)) (hlen : T.length ≤ 9223372036854775806) (s : List UInt8) :
    Calls Tryd.prog 56 #[v, str s] w (fun e w' => ∃ x, e = .returned x ∧ (∃ z : Int, x = .int .i64 z ∧ (0 ≤ z ↔ T.contains s = true)) ∧ w' = w) := by
  obtain ⟨pa, ca, rfl, -⟩ := hv.shape (strsL_len T) (by omega)
  refine calls_of Tryd.func56 rfl Tryd.ntmps56 rfl ?_
  repeat' (first | refine a_mov ?_ | refine a_asg ?_ | refine a_binN ?_ | refine a_notd ?_ | refine a_notb ?_ | refine a_nilc ?_ | refine a_fa ?_ | refine a_ext ?_ | refine a_lenv ?_ | refine a_lens ?_ | refine a_pick_t ?_ | refine a_pick_f ?_ | refine a_not ?_ | refine a_nilf ?_ | (refine o_nil (hK _ _ ?_); clear hK K) | refine wk_reg ?_ | refine wk_seq fun K hK => ?_ | (refine wk_skip (hK _ _ ?_); clear hK K) | (refine wk_label (hK _ _ ?_); clear hK K) | refine wk_scope ?_ | refine wk_block ?_ | refine wk_cond_t rfl ?_ | refine wk_cond_f rfl ?_ | (refine wk_exit ?_; (repeat (refine blockK_other rfl ?_)); refine blockK_same ?_; try ((repeat ((fail_if_success (refine hK _ _ ?_)); clear hK K)); refine hK _ _ ?_; clear hK K)) | (refine a_bin ?_ ?_ <;> intro _ <;> try (exfalso; omega)) | refine a_ld hl ?_ | (refine a_st hl ?_; clear hl; intro _ hl) | refine a_ix (fun _ => ?_) | fail)
  refine wk_loopH [] rfl (fun k : Nat => [(0, .slice pa T.length ca), (1, str s), (7, .int .i64 (T.length : Int)), (8, .int .i64 (k : Int))]) (fun k w' => (k ≤ T.length ∧ ∀ j (hj : j < T.length), j < k → T[j] ≠ s) ∧ w' = w) (fun k => T.length - k) 0 ⟨rfl, rfl, rfl, rfl, trivial⟩ ⟨⟨by omega, fun j hj h => by omega⟩, rfl⟩ ?_
  rintro k t w2 ⟨⟨hk, hno⟩, hw⟩
  obtain rfl : w2 = w := hw
  by_cases hk1 : k < T.length
  · obtain ⟨b, o, hp, hr⟩ := Sl.text hv rfl hk1
    repeat' (first | refine a_mov ?_ | refine a_asg ?_ | refine a_binN ?_ | refine a_notd ?_ | refine a_notb ?_ | refine a_nilc ?_ | refine a_fa ?_ | refine a_ext ?_ | refine a_lenv ?_ | refine a_lens ?_ | refine a_pick_t ?_ | refine a_pick_f ?_ | refine a_not ?_ | refine a_nilf ?_ | (refine o_nil (hK _ _ ?_); clear hK K) | refine wk_reg ?_ | refine wk_seq fun K hK => ?_ | (refine wk_skip (hK _ _ ?_); clear hK K) | (refine wk_label (hK _ _ ?_); clear hK K) | refine wk_scope ?_ | refine wk_block ?_ | refine wk_cond_t rfl ?_ | refine wk_cond_f rfl ?_ | (refine wk_exit ?_; (repeat (refine blockK_other rfl ?_)); refine blockK_same ?_; try ((repeat ((fail_if_success (refine hK _ _ ?_)); clear hK K)); refine hK _ _ ?_; clear hK K)) | (refine a_bin ?_ ?_ <;> intro _ <;> try (exfalso; omega)) | refine a_ld hl ?_ | (refine a_st hl ?_; clear hl; intro _ hl) | refine a_ix (fun _ => ?_) | refine a_idx (c := 1) k hp ?_ | refine a_row hr ?_)
    refine o_eqsT (a := s) (b := T[k]) rfl rfl rfl ?_ ?_
    · intro hid
      repeat' (first | refine a_mov ?_ | refine a_asg ?_ | refine a_binN ?_ | refine a_notd ?_ | refine a_notb ?_ | refine a_nilc ?_ | refine a_fa ?_ | refine a_ext ?_ | refine a_lenv ?_ | refine a_lens ?_ | refine a_pick_t ?_ | refine a_pick_f ?_ | refine a_not ?_ | refine a_nilf ?_ | (refine o_nil (hK _ _ ?_); clear hK K) | refine wk_reg ?_ | refine wk_seq fun K hK => ?_ | (refine wk_skip (hK _ _ ?_); clear hK K) | (refine wk_label (hK _ _ ?_); clear hK K) | refine wk_scope ?_ | refine wk_block ?_ | refine wk_cond_t rfl ?_ | refine wk_cond_f rfl ?_ | (refine wk_exit ?_; (repeat (refine blockK_other rfl ?_)); refine blockK_same ?_; try ((repeat ((fail_if_success (refine hK _ _ ?_)); clear hK K)); refine hK _ _ ?_; clear hK K)) | (refine a_bin ?_ ?_ <;> intro _ <;> try (exfalso; omega)) | refine a_ld hl ?_ | (refine a_st hl ?_; clear hl; intro _ hl) | refine a_ix (fun _ => ?_) | fail)
      refine wk_ret (retQ_tmp1 Tryd.results56 (by decide) rfl (by conv => lhs; whnf) ?_)
      exact ⟨⟨(k : Int), rfl, fun _ => List.contains_iff_mem.2 (hid ▸ List.getElem_mem hk1), fun _ => by omega⟩, rfl⟩
    · intro hid
      repeat' (first | refine a_mov ?_ | refine a_asg ?_ | refine a_binN ?_ | refine a_notd ?_ | refine a_notb ?_ | refine a_nilc ?_ | refine a_fa ?_ | refine a_ext ?_ | refine a_lenv ?_ | refine a_lens ?_ | refine a_pick_t ?_ | refine a_pick_f ?_ | refine a_not ?_ | refine a_nilf ?_ | (refine o_nil (hK _ _ ?_); clear hK K) | refine wk_reg ?_ | refine wk_seq fun K hK => ?_ | (refine wk_skip (hK _ _ ?_); clear hK K) | (refine wk_label (hK _ _ ?_); clear hK K) | refine wk_scope ?_ | refine wk_block ?_ | refine wk_cond_t rfl ?_ | refine wk_cond_f rfl ?_ | (refine wk_exit ?_; (repeat (refine blockK_other rfl ?_)); refine blockK_same ?_; try ((repeat ((fail_if_success (refine hK _ _ ?_)); clear hK K)); refine hK _ _ ?_; clear hK K)) | (refine a_bin ?_ ?_ <;> intro _ <;> try (exfalso; omega)) | refine a_ld hl ?_ | (refine a_st hl ?_; clear hl; intro _ hl) | refine a_ix (fun _ => ?_) | fail)
      exact o_nil ⟨k + 1, ⟨rfl, rfl, rfl, rfl, trivial⟩, rfl, ⟨⟨hk1, fun j hj hjk => by
        by_cases e : j = k
        · subst e; exact fun h => hid h.symm
        · exact hno j hj (by omega)⟩, rfl⟩, by omega⟩
  · have hst := contains_take (T := T) (s := s) fun j hj => hno j hj (by omega)
    clear hno
    repeat' (first | refine a_mov ?_ | refine a_asg ?_ | refine a_binN ?_ | refine a_notd ?_ | refine a_notb ?_ | refine a_nilc ?_ | refine a_fa ?_ | refine a_ext ?_ | refine a_lenv ?_ | refine a_lens ?_ | refine a_pick_t ?_ | refine a_pick_f ?_ | refine a_not ?_ | refine a_nilf ?_ | (refine o_nil (hK _ _ ?_); clear hK K) | refine wk_reg ?_ | refine wk_seq fun K hK => ?_ | (refine wk_skip (hK _ _ ?_); clear hK K) | (refine wk_label (hK _ _ ?_); clear hK K) | refine wk_scope ?_ | refine wk_block ?_ | refine wk_cond_t rfl ?_ | refine wk_cond_f rfl ?_ | (refine wk_exit ?_; (repeat (refine blockK_other rfl ?_)); refine blockK_same ?_; try ((repeat ((fail_if_success (refine hK _ _ ?_)); clear hK K)); refine hK _ _ ?_; clear hK K)) | (refine a_bin ?_ ?_ <;> intro _ <;> try (exfalso; omega)) | refine a_ld hl ?_ | (refine a_st hl ?_; clear hl; intro _ hl) | refine a_ix (fun _ => ?_) | fail)
    refine wk_ret (retQ_tmp1 Tryd.results56 (by decide) rfl (by conv => lhs; whnf) ?_)
    exact ⟨⟨-1, rfl, by rw [hst]; simp⟩, rfl⟩

theorem contains_calls {T : List (List UInt8)} {v : Value} {w : World} (hv : Sl w v 1 (strsL T)) (hlen : T.length ≤ 9223372036854775806) (s : List UInt8) :
    Calls Tryd.prog 38 #[v, str s] w (fun e w' => ∃ x, e = .returned x ∧ x = .bool (T.contains s) ∧ w' = w) := by
  obtain ⟨pa, ca, rfl, -⟩ := hv.shape (strsL_len T) (by omega)
  refine calls_of Tryd.func38 rfl Tryd.ntmps38 rfl ?_
  repeat' (first | refine a_mov ?_ | refine a_asg ?_ | refine a_binN ?_ | refine a_notd ?_ | refine a_notb ?_ | refine a_nilc ?_ | refine a_fa ?_ | refine a_ext ?_ | refine a_lenv ?_ | refine a_lens ?_ | refine a_pick_t ?_ | refine a_pick_f ?_ | refine a_not ?_ | refine a_nilf ?_ | (refine o_nil (hK _ _ ?_); clear hK K) | refine wk_reg ?_ | refine wk_seq fun K hK => ?_ | (refine wk_skip (hK _ _ ?_); clear hK K) | (refine wk_label (hK _ _ ?_); clear hK K) | refine wk_scope ?_ | refine wk_block ?_ | refine wk_cond_t rfl ?_ | refine wk_cond_f rfl ?_ | (refine wk_exit ?_; (repeat (refine blockK_other rfl ?_)); refine blockK_same ?_; try ((repeat ((fail_if_success (refine hK _ _ ?_)); clear hK K)); refine hK _ _ ?_; clear hK K)) | (refine a_bin ?_ ?_ <;> intro _ <;> try (exfalso; omega)) | refine a_ld hl ?_ | (refine a_st hl ?_; clear hl; intro _ hl) | refine a_ix (fun _ => ?_) | fail)
  refine a_fn (index_calls hv hlen s) ?_
  rintro _ w2 ⟨⟨z, rfl, hz⟩, hw⟩
  obtain rfl : w2 = w := hw
  repeat' (first | refine a_mov ?_ | refine a_asg ?_ | refine a_binN ?_ | refine a_notd ?_ | refine a_notb ?_ | refine a_nilc ?_ | refine a_fa ?_ | refine a_ext ?_ | refine a_lenv ?_ | refine a_lens ?_ | refine a_pick_t ?_ | refine a_pick_f ?_ | refine a_not ?_ | refine a_nilf ?_ | (refine o_nil (hK _ _ ?_); clear hK K) | refine wk_reg ?_ | refine wk_seq fun K hK => ?_ | (refine wk_skip (hK _ _ ?_); clear hK K) | (refine wk_label (hK _ _ ?_); clear hK K) | refine wk_scope ?_ | refine wk_block ?_ | refine wk_cond_t rfl ?_ | refine wk_cond_f rfl ?_ | (refine wk_exit ?_; (repeat (refine blockK_other rfl ?_)); refine blockK_same ?_; try ((repeat ((fail_if_success (refine hK _ _ ?_)); clear hK K)); refine hK _ _ ?_; clear hK K)) | (refine a_bin ?_ ?_ <;> intro _ <;> try (exfalso; omega)) | refine a_ld hl ?_ | (refine a_st hl ?_; clear hl; intro _ hl) | refine a_ix (fun _ => ?_) | fail)
  all_goals (refine wk_ret (retQ_tmp1 Tryd.results38 (by decide) rfl (by conv => lhs; whnf) ?_); refine ⟨?_, rfl⟩)
  · rw [hz.1 (by omega)]
  · cases hc : T.contains s
    · rfl
    · exact absurd (hz.2 hc) (by omega)
end Go.Proofs
