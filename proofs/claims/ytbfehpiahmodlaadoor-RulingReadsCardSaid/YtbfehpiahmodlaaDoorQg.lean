/-
  Rulings: comparing spans, looking days up, sizes (the reference).
-/
import Derived.Test.YtbfehpiahmodlaaDoorQb
set_option linter.unusedVariables false
set_option linter.unusedSimpArgs false
set_option linter.unnecessarySimpa false
set_option maxRecDepth 10000
namespace Go.Rul
open Go.Lexs Go.Fin Go.Fo
theorem spn_dec (a b : Spn) : a = b ↔ a.fro = b.fro ∧ a.til = b.til ∧ a.read = b.read := by
  cases a; cases b; rw [Spn.mk.injEq]
theorem onB_drop {l : List Spn} {n : Int} {i : Nat} (hi : i < l.length) : onB (l.drop i) n = if l[i].fro ≤ n ∧ (l[i].til = -1 ∨ n < l[i].til) then some l[i] else onB (l.drop (i + 1)) n := by
  rw [List.drop_eq_getElem_cons hi]; rfl
end Go.Rul

namespace Go.Proofs
open Go Go.Pd Go.Lexs Go.Fin Go.Fo
attribute [local irreducible] OpsL W RetQ OpsQ OpsC

theorem Row.sub5 {w : World} {b o k : Nat} {vs us : List Value} (h : Row w b o vs) (hu : (vs.drop k).take us.length = us) : Row w b (o + k) us := by
  intro i v hv
  have hi := (List.getElem?_eq_some_iff.1 hv).1
  rw [← hu, List.getElem?_take, if_pos hi, List.getElem?_drop] at hv
  have := h _ _ hv
  rw [Nat.add_assoc]; exact this

/-! ### Spans -/
set_option maxHeartbeats 4000000 in
theorem refSpans_calls (a b : List Rul.Spn) (va vb : Value) (w : World) (ha : SpnsAt w a va) (hb : SpnsAt w b vb) (hla : a.length ≤ 1000000) (hlb : b.length ≤ 1000000) (hsa : ∀ s ∈ a, Short s.read.kids) (hsb : ∀ s ∈ b, Short s.read.kids) :
    Calls Tryd.prog 17 #[va, vb] w (fun e w' => ∃ x, e = .returned x ∧ x = .bool (decide (a = b)) ∧ Ext w w') := by
  obtain ⟨pa, ca, rfl, -⟩ := ha.shape
  obtain ⟨pb, cb, rfl, -⟩ := hb.shape
  refine calls_of Tryd.func17 rfl Tryd.ntmps17 rfl ?_
  by_cases hne : a.length = b.length
  rotate_left
  · repeat' (first | refine a_mov ?_ | refine a_asg ?_ | refine a_binN ?_ | refine a_notd ?_ | refine a_notb ?_ | refine a_nilc ?_ | refine a_fa ?_ | refine a_ext ?_ | refine a_lenv ?_ | refine a_lens ?_ | refine a_pick_t ?_ | refine a_pick_f ?_ | refine a_not ?_ | refine a_nilf ?_ | (refine o_nil (hK _ _ ?_); clear hK K) | refine wk_reg ?_ | refine wk_seq fun K hK => ?_ | (refine wk_skip (hK _ _ ?_); clear hK K) | (refine wk_label (hK _ _ ?_); clear hK K) | refine wk_scope ?_ | refine wk_block ?_ | refine wk_cond_t rfl ?_ | refine wk_cond_f rfl ?_ | (refine wk_exit ?_; (repeat (refine blockK_other rfl ?_)); refine blockK_same ?_; try ((repeat ((fail_if_success (refine hK _ _ ?_)); clear hK K)); refine hK _ _ ?_; clear hK K)) | (refine a_bin ?_ ?_ <;> intro _ <;> try (exfalso; omega)) | refine a_ld hl ?_ | (refine a_st hl ?_; clear hl; intro _ hl) | refine a_ix (fun _ => ?_) | fail)
    refine wk_ret (retQ_tmp1 Tryd.results17 (by decide) rfl (by conv => lhs; whnf) ?_)
    exact ⟨by rw [decide_eq_false (fun e => hne (by rw [e]))], .refl _ _⟩
  repeat' (first | refine a_mov ?_ | refine a_asg ?_ | refine a_binN ?_ | refine a_notd ?_ | refine a_notb ?_ | refine a_nilc ?_ | refine a_fa ?_ | refine a_ext ?_ | refine a_lenv ?_ | refine a_lens ?_ | refine a_pick_t ?_ | refine a_pick_f ?_ | refine a_not ?_ | refine a_nilf ?_ | (refine o_nil (hK _ _ ?_); clear hK K) | refine wk_reg ?_ | refine wk_seq fun K hK => ?_ | (refine wk_skip (hK _ _ ?_); clear hK K) | (refine wk_label (hK _ _ ?_); clear hK K) | refine wk_scope ?_ | refine wk_block ?_ | refine wk_cond_t rfl ?_ | refine wk_cond_f rfl ?_ | (refine wk_exit ?_; (repeat (refine blockK_other rfl ?_)); refine blockK_same ?_; try ((repeat ((fail_if_success (refine hK _ _ ?_)); clear hK K)); refine hK _ _ ?_; clear hK K)) | (refine a_bin ?_ ?_ <;> intro _ <;> try (exfalso; omega)) | refine a_ld hl ?_ | (refine a_st hl ?_; clear hl; intro _ hl) | refine a_ix (fun _ => ?_) | fail)
  refine wk_loopH [] rfl (fun k : Nat => [(0, .slice pa a.length ca), (1, .slice pb b.length cb), (5, .int .i64 (k : Int))]) (fun k w' => (k ≤ a.length ∧ a.take k = b.take k) ∧ Ext w w') (fun k => a.length - k) 0 ⟨rfl, rfl, rfl, trivial⟩ ⟨⟨by omega, by simp⟩, .refl _ _⟩ ?_
  rintro k t w1 ⟨⟨hk, heq⟩, he⟩
  by_cases hk1 : k < a.length
  · have hk2 : k < b.length := by omega
    obtain ⟨ba, oa, kva, hpa, hra, hka⟩ := (ha.ext he).at hk1
    obtain ⟨bb, ob, kvb, hpb, hrb, hkb⟩ := (hb.ext he).at hk2
    have sa := hsa _ (List.getElem_mem hk1)
    have sb := hsb _ (List.getElem_mem hk2)
    have htk := take_eq hk1 hk2 heq
    have hnea := ne_at hk1 hk2
    have hdec := Rul.spn_dec a[k] b[k]
    generalize a[k] = x at *
    generalize b[k] = y at *
    have fa : Row w1 ba (oa + k * 7 + 2) [.int .i64 (x.read).op, str (x.read).name, .int .i64 (x.read).cmp, .int .i64 (x.read).num, kva] := Row.sub5 hra rfl
    have fb : Row w1 bb (ob + k * 7 + 2) [.int .i64 (y.read).op, str (y.read).name, .int .i64 (y.read).cmp, .int .i64 (y.read).num, kvb] := Row.sub5 hrb rfl
    have hcall := fun w' (hw' : Ext w1 w') => refSame_calls x.read y.read w' _ _ kva kvb (hka.ext hw') (hkb.ext hw') sa.1 sb.1 sa.2 sb.2
    by_cases hr : x.read = y.read
    all_goals first | simp only [decide_eq_true hr] at hcall | simp only [decide_eq_false hr] at hcall
    all_goals repeat' (first | refine a_mov ?_ | refine a_asg ?_ | refine a_binN ?_ | refine a_notd ?_ | refine a_notb ?_ | refine a_nilc ?_ | refine a_fa ?_ | refine a_ext ?_ | refine a_lenv ?_ | refine a_lens ?_ | refine a_pick_t ?_ | refine a_pick_f ?_ | refine a_not ?_ | refine a_nilf ?_ | (refine o_nil (hK _ _ ?_); clear hK K) | refine wk_reg ?_ | refine wk_seq fun K hK => ?_ | (refine wk_skip (hK _ _ ?_); clear hK K) | (refine wk_label (hK _ _ ?_); clear hK K) | refine wk_scope ?_ | refine wk_block ?_ | refine wk_cond_t rfl ?_ | refine wk_cond_f rfl ?_ | (refine wk_exit ?_; (repeat (refine blockK_other rfl ?_)); refine blockK_same ?_; try ((repeat ((fail_if_success (refine hK _ _ ?_)); clear hK K)); refine hK _ _ ?_; clear hK K)) | (refine a_bin ?_ ?_ <;> intro _ <;> try (exfalso; omega)) | refine a_ld hl ?_ | (refine a_st hl ?_; clear hl; intro _ hl) | refine a_ix (fun _ => ?_) | fail)
    all_goals refine wk_quiet [0, 1, 2, 3, 4, 5, 6, 7, 8, 9, 10, 11, 12, 13, 14, 15, 16, 17, 18, 19, 20, 21, 22, 23, 24, 25, 26, 27, 28, 29, 30, 31, 32, 33, 34, 35, 36, 37] ?_
    all_goals repeat' (first | refine q_mov ?_ | refine q_asg ?_ | refine q_fa ?_ | refine q_ext ?_ | refine q_binN ?_ | refine q_notd ?_ | refine q_notb ?_ | refine q_pick_t ?_ | refine q_pick_f ?_ | refine q_nilc ?_ | refine q_skip ?_ | refine q_lens ?_ | refine q_lenv ?_ | refine q_nil ?_ | refine q_ix (fun _ => ?_) | (refine q_bin ?_ ?_ <;> intro _ <;> try (exfalso; omega)) | refine q_idx (c := 7) k hpa ?_ | refine q_idx (c := 7) k hpb ?_ | refine q_row (fun w_ hw_ => hra.ext hw_) ?_ | refine q_row (fun w_ hw_ => hrb.ext hw_) ?_ | refine q_all (fun w_ hw_ => fa.ext hw_) ?_ | refine q_all (fun w_ hw_ => fb.ext hw_) ?_ | refine q_fn hcall ?_)
    all_goals (intro w2 hw2; refine hK _ _ ?_; clear hK K)
    all_goals repeat' (first | refine a_mov ?_ | refine a_asg ?_ | refine a_binN ?_ | refine a_notd ?_ | refine a_notb ?_ | refine a_nilc ?_ | refine a_fa ?_ | refine a_ext ?_ | refine a_lenv ?_ | refine a_lens ?_ | refine a_pick_t ?_ | refine a_pick_f ?_ | refine a_not ?_ | refine a_nilf ?_ | (refine o_nil (hK _ _ ?_); clear hK K) | refine wk_reg ?_ | refine wk_seq fun K hK => ?_ | (refine wk_skip (hK _ _ ?_); clear hK K) | (refine wk_label (hK _ _ ?_); clear hK K) | refine wk_scope ?_ | refine wk_block ?_ | refine wk_cond_t rfl ?_ | refine wk_cond_f rfl ?_ | (refine wk_exit ?_; (repeat (refine blockK_other rfl ?_)); refine blockK_same ?_; try ((repeat ((fail_if_success (refine hK _ _ ?_)); clear hK K)); refine hK _ _ ?_; clear hK K)) | (refine a_bin ?_ ?_ <;> intro _ <;> try (exfalso; omega)) | refine a_ld hl ?_ | (refine a_st hl ?_; clear hl; intro _ hl) | refine a_ix (fun _ => ?_) | fail)
    all_goals first
      | exact o_nil ⟨k + 1, ⟨rfl, rfl, rfl, trivial⟩, rfl, ⟨⟨hk1, htk (hdec.2 ⟨by omega, by omega, hr⟩)⟩, he.trans hw2⟩, by omega⟩
      | (refine wk_ret (retQ_tmp1 Tryd.results17 (by decide) rfl (by conv => lhs; whnf) ?_)
         exact ⟨by rw [decide_eq_false (hnea fun e => by have h1 := hdec.1 e; first | exact hr h1.2.2 | omega)], he.trans hw2⟩)
  · have heq2 : a = b := by
      rw [List.take_of_length_le (by omega), List.take_of_length_le (by omega)] at heq
      exact heq
    repeat' (first | refine a_mov ?_ | refine a_asg ?_ | refine a_binN ?_ | refine a_notd ?_ | refine a_notb ?_ | refine a_nilc ?_ | refine a_fa ?_ | refine a_ext ?_ | refine a_lenv ?_ | refine a_lens ?_ | refine a_pick_t ?_ | refine a_pick_f ?_ | refine a_not ?_ | refine a_nilf ?_ | (refine o_nil (hK _ _ ?_); clear hK K) | refine wk_reg ?_ | refine wk_seq fun K hK => ?_ | (refine wk_skip (hK _ _ ?_); clear hK K) | (refine wk_label (hK _ _ ?_); clear hK K) | refine wk_scope ?_ | refine wk_block ?_ | refine wk_cond_t rfl ?_ | refine wk_cond_f rfl ?_ | (refine wk_exit ?_; (repeat (refine blockK_other rfl ?_)); refine blockK_same ?_; try ((repeat ((fail_if_success (refine hK _ _ ?_)); clear hK K)); refine hK _ _ ?_; clear hK K)) | (refine a_bin ?_ ?_ <;> intro _ <;> try (exfalso; omega)) | refine a_ld hl ?_ | (refine a_st hl ?_; clear hl; intro _ hl) | refine a_ix (fun _ => ?_) | fail)
    refine wk_ret (retQ_tmp1 Tryd.results17 (by decide) rfl (by conv => lhs; whnf) ?_)
    exact ⟨by rw [decide_eq_true heq2], he⟩

/-! ### Looking days up -/
set_option maxHeartbeats 2000000 in
theorem refOn_calls (l : List Rul.Spn) (v : Value) (n : Int) (w : World) (hL : SpnsAt w l v) (hlen : l.length ≤ 1000000000000) :
    Calls Tryd.prog 8 #[v, .int .i64 n] w (fun e w' => ∃ x, e = .returned x ∧ (∃ fv b, x = .tuple #[fv, .bool b] ∧ b = (Rul.onB l n).isSome ∧ (∀ s, Rul.onB l n = some s → ∃ kv, fv = .agg (fmL s.read kv).toArray ∧ KA w s.read.kids kv) ∧ (Rul.onB l n = none → fv = .agg (fmL (.node 0 [] 0 0 []) (.slice none 0 0)).toArray)) ∧ Ext w w') := by
  obtain ⟨pa, ca, rfl, -⟩ := hL.shape
  refine calls_of Tryd.func8 rfl Tryd.ntmps8 rfl ?_
  refine wk_seq fun K hK => ?_
  refine wk_reg ?_
  refine o_alloc (LH.start w (fun _ => False)) [.int .i64 0, .string ⟨#[]⟩, .int .i64 0, .int .i64 0, .slice none 0 0] rfl rfl ?_
  intro b4 w1 hb4 hl
  repeat' (first | refine a_mov ?_ | refine a_asg ?_ | refine a_binN ?_ | refine a_notd ?_ | refine a_notb ?_ | refine a_nilc ?_ | refine a_fa ?_ | refine a_ext ?_ | refine a_lenv ?_ | refine a_lens ?_ | refine a_pick_t ?_ | refine a_pick_f ?_ | refine a_not ?_ | refine a_nilf ?_ | (refine o_nil (hK _ _ ?_); clear hK K) | refine wk_reg ?_ | refine wk_seq fun K hK => ?_ | (refine wk_skip (hK _ _ ?_); clear hK K) | (refine wk_label (hK _ _ ?_); clear hK K) | refine wk_scope ?_ | refine wk_block ?_ | refine wk_cond_t rfl ?_ | refine wk_cond_f rfl ?_ | (refine wk_exit ?_; (repeat (refine blockK_other rfl ?_)); refine blockK_same ?_; try ((repeat ((fail_if_success (refine hK _ _ ?_)); clear hK K)); refine hK _ _ ?_; clear hK K)) | (refine a_bin ?_ ?_ <;> intro _ <;> try (exfalso; omega)) | refine a_ld hl ?_ | (refine a_st hl ?_; clear hl; intro _ hl) | refine a_ix (fun _ => ?_) | fail)
  refine wk_loopH [] rfl (fun k : Nat => [(0, .slice pa l.length ca), (1, .int .i64 n), (4, .pointer (some ⟨b4, 0, none⟩)), (6, .int .i64 (k : Int))]) (fun k w' => (k ≤ l.length ∧ Rul.onB l n = Rul.onB (l.drop k) n) ∧ LH w (fun _ => False) w' [(b4, Obj.cells #[.int .i64 0, .string ⟨#[]⟩, .int .i64 0, .int .i64 0, .slice none 0 0] 25 (0, 0))]) (fun k => l.length - k) 0 ⟨rfl, rfl, rfl, rfl, trivial⟩ ⟨⟨by omega, rfl⟩, hl⟩ ?_
  clear hl
  rintro k t w2 ⟨⟨hk, hon⟩, hl⟩
  by_cases hk1 : k < l.length
  · obtain ⟨b, o, kv, hp, hr, hkk⟩ := hL.at hk1
    have hon1 := Rul.onB_drop (n := n) hk1
    rw [← hon] at hon1
    have hone := fmL_one hkk
    generalize l[k] = s at *
    have fr : Row w2 b (o + k * 7 + 2) [.int .i64 (s.read).op, str (s.read).name, .int .i64 (s.read).cmp, .int .i64 (s.read).num, kv] := Row.sub5 (hr.ext hl.done) rfl
    replace hr := hr.ext hl.done
    by_cases hin : s.fro ≤ n ∧ (s.til = -1 ∨ n < s.til)
    · rw [if_pos hin] at hon1
      repeat' (first | refine a_mov ?_ | refine a_asg ?_ | refine a_binN ?_ | refine a_notd ?_ | refine a_notb ?_ | refine a_nilc ?_ | refine a_fa ?_ | refine a_ext ?_ | refine a_lenv ?_ | refine a_lens ?_ | refine a_pick_t ?_ | refine a_pick_f ?_ | refine a_not ?_ | refine a_nilf ?_ | (refine o_nil (hK _ _ ?_); clear hK K) | refine wk_reg ?_ | refine wk_seq fun K hK => ?_ | (refine wk_skip (hK _ _ ?_); clear hK K) | (refine wk_label (hK _ _ ?_); clear hK K) | refine wk_scope ?_ | refine wk_block ?_ | refine wk_cond_t rfl ?_ | refine wk_cond_f rfl ?_ | (refine wk_exit ?_; (repeat (refine blockK_other rfl ?_)); refine blockK_same ?_; try ((repeat ((fail_if_success (refine hK _ _ ?_)); clear hK K)); refine hK _ _ ?_; clear hK K)) | (refine a_bin ?_ ?_ <;> intro _ <;> try (exfalso; omega)) | refine a_ld hl ?_ | (refine a_st hl ?_; clear hl; intro _ hl) | refine a_ix (fun _ => ?_) | refine a_idx (c := 7) k hp ?_ | refine a_all fr ?_ | refine a_row hr ?_)
      all_goals refine o_putN (us := [.int .i64 (s.read).op, str (s.read).name, .int .i64 (s.read).cmp, .int .i64 (s.read).num, kv]) hl rfl rfl rfl hone rfl (.all rfl rfl) ?_
      all_goals (clear hl; intro w3 hl)
      all_goals repeat' (first | refine a_mov ?_ | refine a_asg ?_ | refine a_binN ?_ | refine a_notd ?_ | refine a_notb ?_ | refine a_nilc ?_ | refine a_fa ?_ | refine a_ext ?_ | refine a_lenv ?_ | refine a_lens ?_ | refine a_pick_t ?_ | refine a_pick_f ?_ | refine a_not ?_ | refine a_nilf ?_ | (refine o_nil (hK _ _ ?_); clear hK K) | refine wk_reg ?_ | refine wk_seq fun K hK => ?_ | (refine wk_skip (hK _ _ ?_); clear hK K) | (refine wk_label (hK _ _ ?_); clear hK K) | refine wk_scope ?_ | refine wk_block ?_ | refine wk_cond_t rfl ?_ | refine wk_cond_f rfl ?_ | (refine wk_exit ?_; (repeat (refine blockK_other rfl ?_)); refine blockK_same ?_; try ((repeat ((fail_if_success (refine hK _ _ ?_)); clear hK K)); refine hK _ _ ?_; clear hK K)) | (refine a_bin ?_ ?_ <;> intro _ <;> try (exfalso; omega)) | refine a_ld hl ?_ | (refine a_st hl ?_; clear hl; intro _ hl) | refine a_ix (fun _ => ?_) | fail)
      all_goals refine wk_ret (retQ_res [.agg ([.int .i64 (s.read).op, str (s.read).name, .int .i64 (s.read).cmp, .int .i64 (s.read).num, kv] : List Value).toArray, .bool true] rfl rfl ⟨by decide, ⟨⟨b4, 0, none⟩, rfl, run_loadVarN rfl rfl (hl.rowL (vs := [.int .i64 (s.read).op, str (s.read).name, .int .i64 (s.read).cmp, .int .i64 (s.read).num, kv]) 0 0 5 rfl)⟩, by decide, rfl, trivial⟩ ⟨⟨_, true, rfl, by rw [hon1]; rfl, fun s' hs' => ?_, fun h' => by rw [hon1] at h'; cases h'⟩, hl.done⟩)
      all_goals (rw [hon1] at hs'; cases hs'; exact ⟨kv, rfl, hkk⟩)
    · rw [if_neg hin] at hon1
      repeat' (first | refine a_mov ?_ | refine a_asg ?_ | refine a_binN ?_ | refine a_notd ?_ | refine a_notb ?_ | refine a_nilc ?_ | refine a_fa ?_ | refine a_ext ?_ | refine a_lenv ?_ | refine a_lens ?_ | refine a_pick_t ?_ | refine a_pick_f ?_ | refine a_not ?_ | refine a_nilf ?_ | (refine o_nil (hK _ _ ?_); clear hK K) | refine wk_reg ?_ | refine wk_seq fun K hK => ?_ | (refine wk_skip (hK _ _ ?_); clear hK K) | (refine wk_label (hK _ _ ?_); clear hK K) | refine wk_scope ?_ | refine wk_block ?_ | refine wk_cond_t rfl ?_ | refine wk_cond_f rfl ?_ | (refine wk_exit ?_; (repeat (refine blockK_other rfl ?_)); refine blockK_same ?_; try ((repeat ((fail_if_success (refine hK _ _ ?_)); clear hK K)); refine hK _ _ ?_; clear hK K)) | (refine a_bin ?_ ?_ <;> intro _ <;> try (exfalso; omega)) | refine a_ld hl ?_ | (refine a_st hl ?_; clear hl; intro _ hl) | refine a_ix (fun _ => ?_) | refine a_idx (c := 7) k hp ?_ | refine a_all fr ?_ | refine a_row hr ?_)
      all_goals exact o_nil ⟨k + 1, ⟨rfl, rfl, rfl, rfl, trivial⟩, rfl, ⟨⟨hk1, hon1⟩, hl⟩, by omega⟩
  · have hno : Rul.onB l n = none := by rw [hon, List.drop_of_length_le (by omega)]; rfl
    repeat' (first | refine a_mov ?_ | refine a_asg ?_ | refine a_binN ?_ | refine a_notd ?_ | refine a_notb ?_ | refine a_nilc ?_ | refine a_fa ?_ | refine a_ext ?_ | refine a_lenv ?_ | refine a_lens ?_ | refine a_pick_t ?_ | refine a_pick_f ?_ | refine a_not ?_ | refine a_nilf ?_ | (refine o_nil (hK _ _ ?_); clear hK K) | refine wk_reg ?_ | refine wk_seq fun K hK => ?_ | (refine wk_skip (hK _ _ ?_); clear hK K) | (refine wk_label (hK _ _ ?_); clear hK K) | refine wk_scope ?_ | refine wk_block ?_ | refine wk_cond_t rfl ?_ | refine wk_cond_f rfl ?_ | (refine wk_exit ?_; (repeat (refine blockK_other rfl ?_)); refine blockK_same ?_; try ((repeat ((fail_if_success (refine hK _ _ ?_)); clear hK K)); refine hK _ _ ?_; clear hK K)) | (refine a_bin ?_ ?_ <;> intro _ <;> try (exfalso; omega)) | refine a_ld hl ?_ | (refine a_st hl ?_; clear hl; intro _ hl) | refine a_ix (fun _ => ?_) | fail)
    refine o_build [.int .i64 0, .string ⟨#[]⟩, .int .i64 0, .int .i64 0, .slice none 0 0] rfl (by kernel_rfl) ?_
    refine o_putN (us := [.int .i64 0, .string ⟨#[]⟩, .int .i64 0, .int .i64 0, .slice none 0 0]) hl rfl rfl rfl rfl rfl (.all rfl rfl) ?_
    clear hl
    intro w3 hl
    repeat' (first | refine a_mov ?_ | refine a_asg ?_ | refine a_binN ?_ | refine a_notd ?_ | refine a_notb ?_ | refine a_nilc ?_ | refine a_fa ?_ | refine a_ext ?_ | refine a_lenv ?_ | refine a_lens ?_ | refine a_pick_t ?_ | refine a_pick_f ?_ | refine a_not ?_ | refine a_nilf ?_ | (refine o_nil (hK _ _ ?_); clear hK K) | refine wk_reg ?_ | refine wk_seq fun K hK => ?_ | (refine wk_skip (hK _ _ ?_); clear hK K) | (refine wk_label (hK _ _ ?_); clear hK K) | refine wk_scope ?_ | refine wk_block ?_ | refine wk_cond_t rfl ?_ | refine wk_cond_f rfl ?_ | (refine wk_exit ?_; (repeat (refine blockK_other rfl ?_)); refine blockK_same ?_; try ((repeat ((fail_if_success (refine hK _ _ ?_)); clear hK K)); refine hK _ _ ?_; clear hK K)) | (refine a_bin ?_ ?_ <;> intro _ <;> try (exfalso; omega)) | refine a_ld hl ?_ | (refine a_st hl ?_; clear hl; intro _ hl) | refine a_ix (fun _ => ?_) | fail)
    refine wk_ret (retQ_res [.agg ([.int .i64 0, .string ⟨#[]⟩, .int .i64 0, .int .i64 0, .slice none 0 0] : List Value).toArray, .bool false] rfl rfl ⟨by decide, ⟨⟨b4, 0, none⟩, rfl, run_loadVarN rfl rfl (hl.rowL (vs := [.int .i64 0, .string ⟨#[]⟩, .int .i64 0, .int .i64 0, .slice none 0 0]) 0 0 5 rfl)⟩, by decide, rfl, trivial⟩ ⟨⟨_, false, rfl, by rw [hno]; rfl, fun s' hs' => by rw [hno] at hs'; (cases hs'), fun _ => by simp only [fmL, Fm.op, Fm.name, Fm.cmp, Fm.num, str_eq]⟩, hl.done⟩)

/-! ### Sizes -/
/-- Kids of formulas that came in: how many there can be. -/
def FmLen (f : Fm) : Prop := f.kids.length ≤ 140737488351232 ∧ ∀ k ∈ preL f.kids, k.kids.length ≤ 140737488351232

set_option maxHeartbeats 2000000 in
theorem ruShort_calls (l : List Rul.Spn) (v : Value) (n : Nat) (w : World) (hL : SpnsAt w l v) (hlen : l.length ≤ 9223372036854775806) (hf : ∀ s ∈ l, FmLen s.read) :
    Calls Tryd.prog 5 #[v, .int .i64 (n : Int)] w (fun e w' => ∃ x, e = .returned x ∧ x = .bool (Rul.shortB l n) ∧ Ext w w') := by
  obtain ⟨pa, ca, rfl, -⟩ := hL.shape
  refine calls_of Tryd.func5 rfl Tryd.ntmps5 rfl ?_
  repeat' (first | refine a_mov ?_ | refine a_asg ?_ | refine a_binN ?_ | refine a_notd ?_ | refine a_notb ?_ | refine a_nilc ?_ | refine a_fa ?_ | refine a_ext ?_ | refine a_lenv ?_ | refine a_lens ?_ | refine a_pick_t ?_ | refine a_pick_f ?_ | refine a_not ?_ | refine a_nilf ?_ | (refine o_nil (hK _ _ ?_); clear hK K) | refine wk_reg ?_ | refine wk_seq fun K hK => ?_ | (refine wk_skip (hK _ _ ?_); clear hK K) | (refine wk_label (hK _ _ ?_); clear hK K) | refine wk_scope ?_ | refine wk_block ?_ | refine wk_cond_t rfl ?_ | refine wk_cond_f rfl ?_ | (refine wk_exit ?_; (repeat (refine blockK_other rfl ?_)); refine blockK_same ?_; try ((repeat ((fail_if_success (refine hK _ _ ?_)); clear hK K)); refine hK _ _ ?_; clear hK K)) | (refine a_bin ?_ ?_ <;> intro _ <;> try (exfalso; omega)) | refine a_ld hl ?_ | (refine a_st hl ?_; clear hl; intro _ hl) | refine a_ix (fun _ => ?_) | fail)
  by_cases hn : l.length ≤ n
  · refine wk_loopH [] rfl (fun k : Nat => [(0, .slice pa l.length ca), (1, .int .i64 (n : Int)), (5, .int .i64 (k : Int))]) (fun k w' => (k ≤ l.length ∧ ∀ s ∈ l.take k, cnt s.read ≤ 250) ∧ Ext w w') (fun k => l.length - k) 0 ⟨rfl, rfl, rfl, trivial⟩ ⟨⟨by omega, by simp⟩, .refl _ _⟩ ?_
    rintro k t w1 ⟨⟨hk, hsm⟩, he⟩
    by_cases hk1 : k < l.length
    · obtain ⟨b, o, kv, hp, hr, hkk⟩ := (hL.ext he).at hk1
      have hfl := hf _ (List.getElem_mem hk1)
      have hmem := List.getElem_mem hk1
      have htk := List.take_succ_eq_append_getElem hk1
      generalize l[k] = s at *
      have fr : Row w1 b (o + k * 7 + 2) [.int .i64 (s.read).op, str (s.read).name, .int .i64 (s.read).cmp, .int .i64 (s.read).num, kv] := Row.sub5 hr rfl
      repeat' (first | refine a_mov ?_ | refine a_asg ?_ | refine a_binN ?_ | refine a_notd ?_ | refine a_notb ?_ | refine a_nilc ?_ | refine a_fa ?_ | refine a_ext ?_ | refine a_lenv ?_ | refine a_lens ?_ | refine a_pick_t ?_ | refine a_pick_f ?_ | refine a_not ?_ | refine a_nilf ?_ | (refine o_nil (hK _ _ ?_); clear hK K) | refine wk_reg ?_ | refine wk_seq fun K hK => ?_ | (refine wk_skip (hK _ _ ?_); clear hK K) | (refine wk_label (hK _ _ ?_); clear hK K) | refine wk_scope ?_ | refine wk_block ?_ | refine wk_cond_t rfl ?_ | refine wk_cond_f rfl ?_ | (refine wk_exit ?_; (repeat (refine blockK_other rfl ?_)); refine blockK_same ?_; try ((repeat ((fail_if_success (refine hK _ _ ?_)); clear hK K)); refine hK _ _ ?_; clear hK K)) | (refine a_bin ?_ ?_ <;> intro _ <;> try (exfalso; omega)) | refine a_ld hl ?_ | (refine a_st hl ?_; clear hl; intro _ hl) | refine a_ix (fun _ => ?_) | refine a_idx (c := 7) k hp ?_ | refine a_all fr ?_)
      refine a_fn (refSmall_calls s.read w1 _ kv 250 hkk (by decide) hfl.1 hfl.2) ?_
      rintro _ w2 ⟨rfl, he2⟩
      by_cases hs : cnt s.read ≤ 250
      · rw [decide_eq_true hs]
        repeat' (first | refine a_mov ?_ | refine a_asg ?_ | refine a_binN ?_ | refine a_notd ?_ | refine a_notb ?_ | refine a_nilc ?_ | refine a_fa ?_ | refine a_ext ?_ | refine a_lenv ?_ | refine a_lens ?_ | refine a_pick_t ?_ | refine a_pick_f ?_ | refine a_not ?_ | refine a_nilf ?_ | (refine o_nil (hK _ _ ?_); clear hK K) | refine wk_reg ?_ | refine wk_seq fun K hK => ?_ | (refine wk_skip (hK _ _ ?_); clear hK K) | (refine wk_label (hK _ _ ?_); clear hK K) | refine wk_scope ?_ | refine wk_block ?_ | refine wk_cond_t rfl ?_ | refine wk_cond_f rfl ?_ | (refine wk_exit ?_; (repeat (refine blockK_other rfl ?_)); refine blockK_same ?_; try ((repeat ((fail_if_success (refine hK _ _ ?_)); clear hK K)); refine hK _ _ ?_; clear hK K)) | (refine a_bin ?_ ?_ <;> intro _ <;> try (exfalso; omega)) | refine a_ld hl ?_ | (refine a_st hl ?_; clear hl; intro _ hl) | refine a_ix (fun _ => ?_) | fail)
        refine o_nil ⟨k + 1, ⟨rfl, rfl, rfl, trivial⟩, rfl, ⟨⟨hk1, fun x hx => ?_⟩, he.trans he2⟩, by omega⟩
        rw [htk] at hx
        rcases List.mem_append.1 hx with hx | hx
        · exact hsm x hx
        · rw [List.mem_singleton.1 hx]; exact hs
      · rw [decide_eq_false hs]
        repeat' (first | refine a_mov ?_ | refine a_asg ?_ | refine a_binN ?_ | refine a_notd ?_ | refine a_notb ?_ | refine a_nilc ?_ | refine a_fa ?_ | refine a_ext ?_ | refine a_lenv ?_ | refine a_lens ?_ | refine a_pick_t ?_ | refine a_pick_f ?_ | refine a_not ?_ | refine a_nilf ?_ | (refine o_nil (hK _ _ ?_); clear hK K) | refine wk_reg ?_ | refine wk_seq fun K hK => ?_ | (refine wk_skip (hK _ _ ?_); clear hK K) | (refine wk_label (hK _ _ ?_); clear hK K) | refine wk_scope ?_ | refine wk_block ?_ | refine wk_cond_t rfl ?_ | refine wk_cond_f rfl ?_ | (refine wk_exit ?_; (repeat (refine blockK_other rfl ?_)); refine blockK_same ?_; try ((repeat ((fail_if_success (refine hK _ _ ?_)); clear hK K)); refine hK _ _ ?_; clear hK K)) | (refine a_bin ?_ ?_ <;> intro _ <;> try (exfalso; omega)) | refine a_ld hl ?_ | (refine a_st hl ?_; clear hl; intro _ hl) | refine a_ix (fun _ => ?_) | fail)
        refine wk_ret (retQ_tmp1 Tryd.results5 (by decide) rfl (by conv => lhs; whnf) ?_)
        exact ⟨by unfold Rul.shortB; rw [decide_eq_false (fun h => hs (h.2 _ hmem))], he.trans he2⟩
    · rw [List.take_of_length_le (by omega)] at hsm
      repeat' (first | refine a_mov ?_ | refine a_asg ?_ | refine a_binN ?_ | refine a_notd ?_ | refine a_notb ?_ | refine a_nilc ?_ | refine a_fa ?_ | refine a_ext ?_ | refine a_lenv ?_ | refine a_lens ?_ | refine a_pick_t ?_ | refine a_pick_f ?_ | refine a_not ?_ | refine a_nilf ?_ | (refine o_nil (hK _ _ ?_); clear hK K) | refine wk_reg ?_ | refine wk_seq fun K hK => ?_ | (refine wk_skip (hK _ _ ?_); clear hK K) | (refine wk_label (hK _ _ ?_); clear hK K) | refine wk_scope ?_ | refine wk_block ?_ | refine wk_cond_t rfl ?_ | refine wk_cond_f rfl ?_ | (refine wk_exit ?_; (repeat (refine blockK_other rfl ?_)); refine blockK_same ?_; try ((repeat ((fail_if_success (refine hK _ _ ?_)); clear hK K)); refine hK _ _ ?_; clear hK K)) | (refine a_bin ?_ ?_ <;> intro _ <;> try (exfalso; omega)) | refine a_ld hl ?_ | (refine a_st hl ?_; clear hl; intro _ hl) | refine a_ix (fun _ => ?_) | fail)
      refine wk_ret (retQ_tmp1 Tryd.results5 (by decide) rfl (by conv => lhs; whnf) ?_)
      exact ⟨by unfold Rul.shortB; rw [decide_eq_true ⟨hn, hsm⟩], he⟩
  · refine wk_loopH [] rfl (fun _ : Unit => [(0, .slice pa l.length ca), (1, .int .i64 (n : Int)), (5, .int .i64 0)]) (fun _ w' => w' = w) (fun _ => 0) () ⟨rfl, rfl, rfl, trivial⟩ rfl ?_
    rintro - t _ rfl
    repeat' (first | refine a_mov ?_ | refine a_asg ?_ | refine a_binN ?_ | refine a_notd ?_ | refine a_notb ?_ | refine a_nilc ?_ | refine a_fa ?_ | refine a_ext ?_ | refine a_lenv ?_ | refine a_lens ?_ | refine a_pick_t ?_ | refine a_pick_f ?_ | refine a_not ?_ | refine a_nilf ?_ | (refine o_nil (hK _ _ ?_); clear hK K) | refine wk_reg ?_ | refine wk_seq fun K hK => ?_ | (refine wk_skip (hK _ _ ?_); clear hK K) | (refine wk_label (hK _ _ ?_); clear hK K) | refine wk_scope ?_ | refine wk_block ?_ | refine wk_cond_t rfl ?_ | refine wk_cond_f rfl ?_ | (refine wk_exit ?_; (repeat (refine blockK_other rfl ?_)); refine blockK_same ?_; try ((repeat ((fail_if_success (refine hK _ _ ?_)); clear hK K)); refine hK _ _ ?_; clear hK K)) | (refine a_bin ?_ ?_ <;> intro _ <;> try (exfalso; omega)) | refine a_ld hl ?_ | (refine a_st hl ?_; clear hl; intro _ hl) | refine a_ix (fun _ => ?_) | fail)
    all_goals (refine wk_ret (retQ_tmp1 Tryd.results5 (by decide) rfl (by conv => lhs; whnf) ?_))
    all_goals exact ⟨by unfold Rul.shortB; rw [decide_eq_false (fun h => hn h.1)], .refl _ _⟩

set_option maxHeartbeats 4000000 in
theorem ruFew_calls (l : List Rul.Rul) (v : Value) (n : Nat) (w : World) (hL : RulsAt w l v) (hlen : l.length ≤ 9223372036854775806) (hf : ∀ r ∈ l, FmLen r.read) :
    Calls Tryd.prog 6 #[v, .int .i64 (n : Int)] w (fun e w' => ∃ x, e = .returned x ∧ x = .bool (Rul.fewB l n) ∧ Ext w w') := by
  obtain ⟨pa, ca, rfl, -⟩ := hL.shape
  refine calls_of Tryd.func6 rfl Tryd.ntmps6 rfl ?_
  repeat' (first | refine a_mov ?_ | refine a_asg ?_ | refine a_binN ?_ | refine a_notd ?_ | refine a_notb ?_ | refine a_nilc ?_ | refine a_fa ?_ | refine a_ext ?_ | refine a_lenv ?_ | refine a_lens ?_ | refine a_pick_t ?_ | refine a_pick_f ?_ | refine a_not ?_ | refine a_nilf ?_ | (refine o_nil (hK _ _ ?_); clear hK K) | refine wk_reg ?_ | refine wk_seq fun K hK => ?_ | (refine wk_skip (hK _ _ ?_); clear hK K) | (refine wk_label (hK _ _ ?_); clear hK K) | refine wk_scope ?_ | refine wk_block ?_ | refine wk_cond_t rfl ?_ | refine wk_cond_f rfl ?_ | (refine wk_exit ?_; (repeat (refine blockK_other rfl ?_)); refine blockK_same ?_; try ((repeat ((fail_if_success (refine hK _ _ ?_)); clear hK K)); refine hK _ _ ?_; clear hK K)) | (refine a_bin ?_ ?_ <;> intro _ <;> try (exfalso; omega)) | refine a_ld hl ?_ | (refine a_st hl ?_; clear hl; intro _ hl) | refine a_ix (fun _ => ?_) | fail)
  by_cases hn : l.length ≤ n
  · refine wk_loopH [] rfl (fun k : Nat => [(0, .slice pa l.length ca), (1, .int .i64 (n : Int)), (5, .int .i64 (k : Int))]) (fun k w' => (k ≤ l.length ∧ ∀ r ∈ l.take k, Rul.smallR r = true) ∧ Ext w w') (fun k => l.length - k) 0 ⟨rfl, rfl, rfl, trivial⟩ ⟨⟨by omega, by simp⟩, .refl _ _⟩ ?_
    rintro k t w1 ⟨⟨hk, hsm⟩, he⟩
    by_cases hk1 : k < l.length
    · obtain ⟨b, o, kv, hp, hr, hkk⟩ := (hL.ext he).at hk1
      have hfl := hf _ (List.getElem_mem hk1)
      have hmem := List.getElem_mem hk1
      have htk := List.take_succ_eq_append_getElem hk1
      generalize l[k] = r at *
      have fr : Row w1 b (o + k * 13 + 5) [.int .i64 (r.read).op, str (r.read).name, .int .i64 (r.read).cmp, .int .i64 (r.read).num, kv] := Row.sub5 hr rfl
      have hsr : Rul.smallR r = true ↔ cnt r.read ≤ 250 ∧ r.id.length ≤ 100 ∧ r.tgt.length ≤ 100 ∧ r.lifts.length ≤ 100 := by unfold Rul.smallR; rw [decide_eq_true_eq]
      have bad : Rul.smallR r ≠ true → Rul.fewB l n = false := fun h => by unfold Rul.fewB; rw [decide_eq_false (fun h' => h (h'.2 _ hmem))]
      have good : Rul.smallR r = true → ∀ x ∈ l.take (k + 1), Rul.smallR x = true := fun h x hx => by
        rw [htk] at hx
        rcases List.mem_append.1 hx with hx | hx
        · exact hsm x hx
        · rw [List.mem_singleton.1 hx]; exact h
      repeat' (first | refine a_mov ?_ | refine a_asg ?_ | refine a_binN ?_ | refine a_notd ?_ | refine a_notb ?_ | refine a_nilc ?_ | refine a_fa ?_ | refine a_ext ?_ | refine a_lenv ?_ | refine a_lens ?_ | refine a_pick_t ?_ | refine a_pick_f ?_ | refine a_not ?_ | refine a_nilf ?_ | (refine o_nil (hK _ _ ?_); clear hK K) | refine wk_reg ?_ | refine wk_seq fun K hK => ?_ | (refine wk_skip (hK _ _ ?_); clear hK K) | (refine wk_label (hK _ _ ?_); clear hK K) | refine wk_scope ?_ | refine wk_block ?_ | refine wk_cond_t rfl ?_ | refine wk_cond_f rfl ?_ | (refine wk_exit ?_; (repeat (refine blockK_other rfl ?_)); refine blockK_same ?_; try ((repeat ((fail_if_success (refine hK _ _ ?_)); clear hK K)); refine hK _ _ ?_; clear hK K)) | (refine a_bin ?_ ?_ <;> intro _ <;> try (exfalso; omega)) | refine a_ld hl ?_ | (refine a_st hl ?_; clear hl; intro _ hl) | refine a_ix (fun _ => ?_) | refine a_idx (c := 13) k hp ?_ | refine a_all fr ?_)
      refine a_fn (refSmall_calls r.read w1 _ kv 250 hkk (by decide) hfl.1 hfl.2) ?_
      rintro _ w2 ⟨rfl, he2⟩
      replace hr := hr.ext he2
      have rl : Row w2 b (o + k * 13 + 12) [str r.lifts] := Row.sub5 hr rfl
      by_cases hs : cnt r.read ≤ 250
      · rw [decide_eq_true hs]
        repeat' (first | refine a_mov ?_ | refine a_asg ?_ | refine a_binN ?_ | refine a_notd ?_ | refine a_notb ?_ | refine a_nilc ?_ | refine a_fa ?_ | refine a_ext ?_ | refine a_lenv ?_ | refine a_lens ?_ | refine a_pick_t ?_ | refine a_pick_f ?_ | refine a_not ?_ | refine a_nilf ?_ | (refine o_nil (hK _ _ ?_); clear hK K) | refine wk_reg ?_ | refine wk_seq fun K hK => ?_ | (refine wk_skip (hK _ _ ?_); clear hK K) | (refine wk_label (hK _ _ ?_); clear hK K) | refine wk_scope ?_ | refine wk_block ?_ | refine wk_cond_t rfl ?_ | refine wk_cond_f rfl ?_ | (refine wk_exit ?_; (repeat (refine blockK_other rfl ?_)); refine blockK_same ?_; try ((repeat ((fail_if_success (refine hK _ _ ?_)); clear hK K)); refine hK _ _ ?_; clear hK K)) | (refine a_bin ?_ ?_ <;> intro _ <;> try (exfalso; omega)) | refine a_ld hl ?_ | (refine a_st hl ?_; clear hl; intro _ hl) | refine a_ix (fun _ => ?_) | refine a_idx (c := 13) k hp ?_ | refine a_row hr ?_ | refine a_row rl ?_)
        all_goals first
          | exact o_nil ⟨k + 1, ⟨rfl, rfl, rfl, trivial⟩, rfl, ⟨⟨hk1, good (hsr.2 (by omega))⟩, he.trans he2⟩, by omega⟩
          | (refine wk_ret (retQ_tmp1 Tryd.results6 (by decide) rfl (by conv => lhs; whnf) ?_)
             exact ⟨by rw [bad (fun h => by have := hsr.1 h; omega)], he.trans he2⟩)
      · rw [decide_eq_false hs]
        repeat' (first | refine a_mov ?_ | refine a_asg ?_ | refine a_binN ?_ | refine a_notd ?_ | refine a_notb ?_ | refine a_nilc ?_ | refine a_fa ?_ | refine a_ext ?_ | refine a_lenv ?_ | refine a_lens ?_ | refine a_pick_t ?_ | refine a_pick_f ?_ | refine a_not ?_ | refine a_nilf ?_ | (refine o_nil (hK _ _ ?_); clear hK K) | refine wk_reg ?_ | refine wk_seq fun K hK => ?_ | (refine wk_skip (hK _ _ ?_); clear hK K) | (refine wk_label (hK _ _ ?_); clear hK K) | refine wk_scope ?_ | refine wk_block ?_ | refine wk_cond_t rfl ?_ | refine wk_cond_f rfl ?_ | (refine wk_exit ?_; (repeat (refine blockK_other rfl ?_)); refine blockK_same ?_; try ((repeat ((fail_if_success (refine hK _ _ ?_)); clear hK K)); refine hK _ _ ?_; clear hK K)) | (refine a_bin ?_ ?_ <;> intro _ <;> try (exfalso; omega)) | refine a_ld hl ?_ | (refine a_st hl ?_; clear hl; intro _ hl) | refine a_ix (fun _ => ?_) | fail)
        refine wk_ret (retQ_tmp1 Tryd.results6 (by decide) rfl (by conv => lhs; whnf) ?_)
        exact ⟨by rw [bad (fun h => by have := hsr.1 h; omega)], he.trans he2⟩
    · rw [List.take_of_length_le (by omega)] at hsm
      repeat' (first | refine a_mov ?_ | refine a_asg ?_ | refine a_binN ?_ | refine a_notd ?_ | refine a_notb ?_ | refine a_nilc ?_ | refine a_fa ?_ | refine a_ext ?_ | refine a_lenv ?_ | refine a_lens ?_ | refine a_pick_t ?_ | refine a_pick_f ?_ | refine a_not ?_ | refine a_nilf ?_ | (refine o_nil (hK _ _ ?_); clear hK K) | refine wk_reg ?_ | refine wk_seq fun K hK => ?_ | (refine wk_skip (hK _ _ ?_); clear hK K) | (refine wk_label (hK _ _ ?_); clear hK K) | refine wk_scope ?_ | refine wk_block ?_ | refine wk_cond_t rfl ?_ | refine wk_cond_f rfl ?_ | (refine wk_exit ?_; (repeat (refine blockK_other rfl ?_)); refine blockK_same ?_; try ((repeat ((fail_if_success (refine hK _ _ ?_)); clear hK K)); refine hK _ _ ?_; clear hK K)) | (refine a_bin ?_ ?_ <;> intro _ <;> try (exfalso; omega)) | refine a_ld hl ?_ | (refine a_st hl ?_; clear hl; intro _ hl) | refine a_ix (fun _ => ?_) | fail)
      refine wk_ret (retQ_tmp1 Tryd.results6 (by decide) rfl (by conv => lhs; whnf) ?_)
      exact ⟨by unfold Rul.fewB; rw [decide_eq_true ⟨hn, hsm⟩], he⟩
  · refine wk_loopH [] rfl (fun _ : Unit => [(0, .slice pa l.length ca), (1, .int .i64 (n : Int)), (5, .int .i64 0)]) (fun _ w' => w' = w) (fun _ => 0) () ⟨rfl, rfl, rfl, trivial⟩ rfl ?_
    rintro - t _ rfl
    repeat' (first | refine a_mov ?_ | refine a_asg ?_ | refine a_binN ?_ | refine a_notd ?_ | refine a_notb ?_ | refine a_nilc ?_ | refine a_fa ?_ | refine a_ext ?_ | refine a_lenv ?_ | refine a_lens ?_ | refine a_pick_t ?_ | refine a_pick_f ?_ | refine a_not ?_ | refine a_nilf ?_ | (refine o_nil (hK _ _ ?_); clear hK K) | refine wk_reg ?_ | refine wk_seq fun K hK => ?_ | (refine wk_skip (hK _ _ ?_); clear hK K) | (refine wk_label (hK _ _ ?_); clear hK K) | refine wk_scope ?_ | refine wk_block ?_ | refine wk_cond_t rfl ?_ | refine wk_cond_f rfl ?_ | (refine wk_exit ?_; (repeat (refine blockK_other rfl ?_)); refine blockK_same ?_; try ((repeat ((fail_if_success (refine hK _ _ ?_)); clear hK K)); refine hK _ _ ?_; clear hK K)) | (refine a_bin ?_ ?_ <;> intro _ <;> try (exfalso; omega)) | refine a_ld hl ?_ | (refine a_st hl ?_; clear hl; intro _ hl) | refine a_ix (fun _ => ?_) | fail)
    all_goals (refine wk_ret (retQ_tmp1 Tryd.results6 (by decide) rfl (by conv => lhs; whnf) ?_))
    all_goals exact ⟨by unfold Rul.fewB; rw [decide_eq_false (fun h => hn h.1)], .refl _ _⟩
end Go.Proofs
