/-
  The statement about gaps, walked.
-/
import Derived.Test.YtebaoilkpedppaaDoorStAg
set_option linter.unusedVariables false
set_option linter.unusedSimpArgs false
set_option linter.unnecessarySimpa false
set_option maxRecDepth 10000
namespace Go.Sta
open Go.Lexs
def snO : Sn ⊕ (Int × Int) → Sn
  | .inl s => s
  | .inr _ => .node 0 [] 0 []
def erO : Sn ⊕ (Int × Int) → Int
  | .inl _ => 0
  | .inr p => p.1
theorem like_out {a b : Sn ⊕ (Int × Int)} (h : PLike a b) : snO a = snO b ∧ erO a = erO b := by
  cases a <;> cases b
  · rw [show _ = _ from h]; exact ⟨rfl, rfl⟩
  · exact h.elim
  · exact h.elim
  · exact ⟨rfl, h⟩
theorem parse_inl {t : Tx} (h : erO (parse t) = 0) : parse t = .inl (snO (parse t)) := by
  cases hp : parse t with
  | inl s => rfl
  | inr p =>
    obtain ⟨e, a⟩ := p
    rw [hp] at h
    exact absurd h (parse_ne hp)
theorem snO_fit (t : Tx) : fitS (snO (parse t)) := by
  cases hp : parse t with
  | inl s => exact parse_fit hp
  | inr p => rw [fitS_eq]; exact ⟨by simp [snO, Sn.name], by simp [snO, Sn.kids], trivial⟩
theorem feed_take {l : List Tok} {i : Nat} (h : i < l.length) : feed (l.take (i + 1)) = (feed (l.take i) ++ l[i].text) ++ [10] := by
  rw [List.take_succ_eq_append_getElem h]
  unfold feed
  rw [List.flatMap_append, List.flatMap_singleton, List.append_assoc]
theorem feed_take_le (l : List Tok) (i : Nat) : (feed (l.take i)).length ≤ (feed l).length := by
  have : feed l = feed (l.take i) ++ feed (l.drop i) := by
    unfold feed
    rw [← List.flatMap_append, List.take_append_drop]
  rw [this, List.length_append]
  omega
end Go.Sta
namespace Go.Proofs
open Go Go.Pd Go.Sta
open Go.Lexs (Tok lex)
attribute [local irreducible] OpsL W RetQ OpsQ OpsC
theorem parse_calls2 (text : Tx) (w : World) : Calls Tryd.prog 6 #[str text] w (fun e w' => ∃ v, e = .returned v ∧ ∃ (kv : Value) (a : Int), v = .tuple #[.agg (snL (snO (parse text)) kv).toArray, .int .i64 (erO (parse text)), .int .i64 a] ∧ KA w' (snO (parse text)).kids kv ∧ Ext w w') := by
  refine Calls.mono (parse_calls text w) ?_
  rintro e w' ⟨v, he, hx, hv⟩
  cases hp : parse text with
  | inl s =>
    rw [hp] at hv
    obtain ⟨kv, rfl, hk⟩ := hv
    exact ⟨_, he, kv, 0, rfl, hk.mono fun b hb => hb.2, hx⟩
  | inr p =>
    obtain ⟨e2, a2⟩ := p
    rw [hp] at hv
    exact ⟨_, he, .slice none 0 0, a2, hv, KA.nil _, hx⟩
set_option maxHeartbeats 8000000 in
theorem Gaps_calls {text : Tx} {w : World} (ht : Tabs w) : Calls Tryd.prog 3 #[str text] w (fun e w' => ∃ v, e = .returned v ∧ v = .bool true ∧ Ext w w') := by
  refine calls_of Tryd.func3 rfl Tryd.ntmps3 rfl ?_
  refine wk_seq fun K hK => ?_
  refine wk_reg ?_
  refine a_asg ?_
  refine o_nil (hK _ _ ?_)
  clear hK K
  refine wk_seq fun K hK => ?_
  refine wk_reg ?_
  refine a_fn (head_calls ht) ?_
  rintro _ w1 ⟨rfl, hx1⟩
  refine a_asg ?_
  refine o_nil (hK _ _ ?_)
  clear hK K
  refine wk_seq fun K hK => ?_
  refine wk_seq fun K2 hK2 => ?_
  refine wk_reg ?_
  by_cases hlong : 2000 < text.length
  · repeat' (first | refine a_mov ?_ | refine a_asg ?_ | refine a_binN ?_ | refine a_notd ?_ | refine a_notb ?_ | refine a_nilc ?_ | refine a_fa ?_ | refine a_ext ?_ | refine a_lenv ?_ | refine a_lens ?_ | refine a_pick_t ?_ | refine a_pick_f ?_ | refine a_not ?_ | refine a_nilf ?_ | (refine a_bin ?_ ?_ <;> intro _ <;> try (exfalso; omega)) | refine a_ld hl ?_ | (refine a_st hl ?_; clear hl; intro _ hl) | refine a_ix (fun _ => ?_) | fail)
    refine o_nil (hK2 _ _ ?_)
    clear hK2 K2
    refine wk_cond_t rfl ?_
    refine wk_seq fun K2 hK2 => ?_
    refine wk_reg ?_
    repeat' (first | refine a_mov ?_ | refine a_asg ?_ | refine a_binN ?_ | refine a_notd ?_ | refine a_notb ?_ | refine a_nilc ?_ | refine a_fa ?_ | refine a_ext ?_ | refine a_lenv ?_ | refine a_lens ?_ | refine a_pick_t ?_ | refine a_pick_f ?_ | refine a_not ?_ | refine a_nilf ?_ | (refine a_bin ?_ ?_ <;> intro _ <;> try (exfalso; omega)) | refine a_ld hl ?_ | (refine a_st hl ?_; clear hl; intro _ hl) | refine a_ix (fun _ => ?_) | fail)
    refine o_nil (hK2 _ _ ?_)
    refine wk_ret (retQ_tmp1 Tryd.results3 (by decide) rfl (by conv => lhs; whnf) ?_)
    exact ⟨rfl, hx1⟩
  repeat' (first | refine a_mov ?_ | refine a_asg ?_ | refine a_binN ?_ | refine a_notd ?_ | refine a_notb ?_ | refine a_nilc ?_ | refine a_fa ?_ | refine a_ext ?_ | refine a_lenv ?_ | refine a_lens ?_ | refine a_pick_t ?_ | refine a_pick_f ?_ | refine a_not ?_ | refine a_nilf ?_ | (refine a_bin ?_ ?_ <;> intro _ <;> try (exfalso; omega)) | refine a_ld hl ?_ | (refine a_st hl ?_; clear hl; intro _ hl) | refine a_ix (fun _ => ?_) | fail)
  refine o_nil (hK2 _ _ ?_)
  clear hK2 K2
  refine wk_cond_f rfl ?_
  refine wk_skip (hK _ _ ?_)
  clear hK K
  refine wk_seq fun K hK => ?_
  refine wk_reg ?_
  refine a_mov ?_
  refine a_fn (lex_calls text w1) ?_
  rintro v w2 ⟨hx2, hout⟩
  have hlen : text.length ≤ 2000 := by omega
  cases hlex : lex text with
  | bad e off =>
    rw [hlex] at hout
    obtain rfl := hout
    have hp : parse text = .inr ((e : Int), off) := by unfold parse; rw [hlex]
    have hne := lex_ne hlex
    repeat' (first | refine a_mov ?_ | refine a_asg ?_ | refine a_binN ?_ | refine a_notd ?_ | refine a_notb ?_ | refine a_nilc ?_ | refine a_fa ?_ | refine a_ext ?_ | refine a_lenv ?_ | refine a_lens ?_ | refine a_pick_t ?_ | refine a_pick_f ?_ | refine a_not ?_ | refine a_nilf ?_ | (refine a_bin ?_ ?_ <;> intro _ <;> try (exfalso; omega)) | refine a_ld hl ?_ | (refine a_st hl ?_; clear hl; intro _ hl) | refine a_ix (fun _ => ?_) | fail)
    refine o_nil (hK _ _ ?_)
    clear hK K
    refine wk_seq fun K hK => ?_
    refine wk_reg ?_
    refine a_mov ?_
    refine a_fn (parse_calls text w2) ?_
    rintro v w3 ⟨hx3, hout⟩
    rw [hp] at hout
    obtain rfl := hout
    repeat' (first | refine a_mov ?_ | refine a_asg ?_ | refine a_binN ?_ | refine a_notd ?_ | refine a_notb ?_ | refine a_nilc ?_ | refine a_fa ?_ | refine a_ext ?_ | refine a_lenv ?_ | refine a_lens ?_ | refine a_pick_t ?_ | refine a_pick_f ?_ | refine a_not ?_ | refine a_nilf ?_ | (refine a_bin ?_ ?_ <;> intro _ <;> try (exfalso; omega)) | refine a_ld hl ?_ | (refine a_st hl ?_; clear hl; intro _ hl) | refine a_ix (fun _ => ?_) | fail)
    refine o_alloc (LH.start w3 (fun _ => False)) [.int .i64 0, .string "".toByteArray, .int .i64 0, .slice none 0 0] (by kernel_rfl) rfl ?_
    intro b7 w4 hb7 hl
    refine o_putN (us := snL nilS (.slice none 0 0)) hl rfl rfl rfl (by simp only [snL, List.all_cons, List.all_nil, oneCell_str]; rfl) rfl (.here rfl rfl) ?_
    clear hl
    intro w5 hl
    have hx5 := hl.done
    clear hl
    repeat' (first | refine a_mov ?_ | refine a_asg ?_ | refine a_binN ?_ | refine a_notd ?_ | refine a_notb ?_ | refine a_nilc ?_ | refine a_fa ?_ | refine a_ext ?_ | refine a_lenv ?_ | refine a_lens ?_ | refine a_pick_t ?_ | refine a_pick_f ?_ | refine a_not ?_ | refine a_nilf ?_ | (refine a_bin ?_ ?_ <;> intro _ <;> try (exfalso; omega)) | refine a_ld hl ?_ | (refine a_st hl ?_; clear hl; intro _ hl) | refine a_ix (fun _ => ?_) | fail)
    refine o_nil (hK _ _ ?_)
    clear hK K
    refine wk_seq fun K hK => ?_
    refine wk_seq fun K2 hK2 => ?_
    refine wk_reg ?_
    repeat' (first | refine a_mov ?_ | refine a_asg ?_ | refine a_binN ?_ | refine a_notd ?_ | refine a_notb ?_ | refine a_nilc ?_ | refine a_fa ?_ | refine a_ext ?_ | refine a_lenv ?_ | refine a_lens ?_ | refine a_pick_t ?_ | refine a_pick_f ?_ | refine a_not ?_ | refine a_nilf ?_ | (refine a_bin ?_ ?_ <;> intro _ <;> try (exfalso; omega)) | refine a_ld hl ?_ | (refine a_st hl ?_; clear hl; intro _ hl) | refine a_ix (fun _ => ?_) | fail)
    refine o_nil (hK2 _ _ ?_)
    clear hK2 K2
    refine wk_cond_t rfl ?_
    refine wk_seq fun K2 hK2 => ?_
    refine wk_reg ?_
    repeat' (first | refine a_mov ?_ | refine a_asg ?_ | refine a_binN ?_ | refine a_notd ?_ | refine a_notb ?_ | refine a_nilc ?_ | refine a_fa ?_ | refine a_ext ?_ | refine a_lenv ?_ | refine a_lens ?_ | refine a_pick_t ?_ | refine a_pick_f ?_ | refine a_not ?_ | refine a_nilf ?_ | (refine a_bin ?_ ?_ <;> intro _ <;> try (exfalso; omega)) | refine a_ld hl ?_ | (refine a_st hl ?_; clear hl; intro _ hl) | refine a_ix (fun _ => ?_) | fail)
    refine o_nil (hK2 _ _ ?_)
    refine wk_ret (retQ_tmp1 Tryd.results3 (by decide) rfl (by conv => lhs; whnf) ?_)
    exact ⟨rfl, ((hx1.trans hx2).trans hx3).trans hx5⟩
  | ok l =>
    rw [hlex] at hout
    obtain ⟨tv, rfl, hT⟩ := hout
    obtain ⟨hlike, hparen⟩ := gaps_plain hlen hlex
    obtain ⟨hlk1, hlk2⟩ := like_out hlike
    have hfeed : (feed l).length ≤ 4000 := by
      obtain ⟨l0, hx, e⟩ : ∃ l0, Lexs.Lx 0 text l0 none ∧ lex text = .ok l0 := by
        rcases Lexs.lex_cases text (by omega) with h1 | ⟨l1, e, p, -, h2⟩
        · exact h1
        · rw [hlex] at h2; cases h2
      rw [hlex] at e
      cases e
      have := feed_length hx
      omega
    have hll : l.length ≤ 5000 := (lex_tok hlex).2
    obtain ⟨ta, tc, rfl, -⟩ := hT.shape (toksL_len l) (by omega)
    repeat' (first | refine a_mov ?_ | refine a_asg ?_ | refine a_binN ?_ | refine a_notd ?_ | refine a_notb ?_ | refine a_nilc ?_ | refine a_fa ?_ | refine a_ext ?_ | refine a_lenv ?_ | refine a_lens ?_ | refine a_pick_t ?_ | refine a_pick_f ?_ | refine a_not ?_ | refine a_nilf ?_ | (refine a_bin ?_ ?_ <;> intro _ <;> try (exfalso; omega)) | refine a_ld hl ?_ | (refine a_st hl ?_; clear hl; intro _ hl) | refine a_ix (fun _ => ?_) | fail)
    refine o_nil (hK _ _ ?_)
    clear hK K
    refine wk_seq fun K hK => ?_
    refine wk_reg ?_
    refine a_mov ?_
    refine a_fn (parse_calls2 text w2) ?_
    rintro _ w3 ⟨ka, aa, rfl, hka, hx3⟩
    repeat' (first | refine a_mov ?_ | refine a_asg ?_ | refine a_binN ?_ | refine a_notd ?_ | refine a_notb ?_ | refine a_nilc ?_ | refine a_fa ?_ | refine a_ext ?_ | refine a_lenv ?_ | refine a_lens ?_ | refine a_pick_t ?_ | refine a_pick_f ?_ | refine a_not ?_ | refine a_nilf ?_ | (refine a_bin ?_ ?_ <;> intro _ <;> try (exfalso; omega)) | refine a_ld hl ?_ | (refine a_st hl ?_; clear hl; intro _ hl) | refine a_ix (fun _ => ?_) | fail)
    refine o_alloc (LH.start w3 (fun _ => False)) [.int .i64 0, .string "".toByteArray, .int .i64 0, .slice none 0 0] (by kernel_rfl) rfl ?_
    intro b7 w4 hb7 hl
    refine o_putN (us := snL (snO (parse text)) ka) hl rfl rfl rfl (snL_one hka) rfl (.here rfl rfl) ?_
    clear hl
    intro w5 hl
    have hra : Row w5 b7 0 (snL (snO (parse text)) ka) := hl.rowL (vs := snL (snO (parse text)) ka) 0 0 4 rfl
    have hx5 := hl.done
    clear hl
    replace hka := hka.ext hx5
    replace hT := (hT.ext hx3).ext hx5
    have hx5' := ((hx1.trans hx2).trans hx3).trans hx5
    clear hx1 hx2 hx3 hx5
    repeat' (first | refine a_mov ?_ | refine a_asg ?_ | refine a_binN ?_ | refine a_notd ?_ | refine a_notb ?_ | refine a_nilc ?_ | refine a_fa ?_ | refine a_ext ?_ | refine a_lenv ?_ | refine a_lens ?_ | refine a_pick_t ?_ | refine a_pick_f ?_ | refine a_not ?_ | refine a_nilf ?_ | (refine a_bin ?_ ?_ <;> intro _ <;> try (exfalso; omega)) | refine a_ld hl ?_ | (refine a_st hl ?_; clear hl; intro _ hl) | refine a_ix (fun _ => ?_) | fail)
    refine o_nil (hK _ _ ?_)
    clear hK K
    refine wk_seq fun K hK => ?_
    refine wk_seq fun K2 hK2 => ?_
    refine wk_reg ?_
    repeat' (first | refine a_mov ?_ | refine a_asg ?_ | refine a_binN ?_ | refine a_notd ?_ | refine a_notb ?_ | refine a_nilc ?_ | refine a_fa ?_ | refine a_ext ?_ | refine a_lenv ?_ | refine a_lens ?_ | refine a_pick_t ?_ | refine a_pick_f ?_ | refine a_not ?_ | refine a_nilf ?_ | (refine a_bin ?_ ?_ <;> intro _ <;> try (exfalso; omega)) | refine a_ld hl ?_ | (refine a_st hl ?_; clear hl; intro _ hl) | refine a_ix (fun _ => ?_) | fail)
    refine o_nil (hK2 _ _ ?_)
    clear hK2 K2
    refine wk_cond_f rfl ?_
    refine wk_skip (hK _ _ ?_)
    clear hK K
    refine wk_seq fun K hK => ?_
    refine wk_reg ?_
    repeat' (first | refine a_mov ?_ | refine a_asg ?_ | refine a_binN ?_ | refine a_notd ?_ | refine a_notb ?_ | refine a_nilc ?_ | refine a_fa ?_ | refine a_ext ?_ | refine a_lenv ?_ | refine a_lens ?_ | refine a_pick_t ?_ | refine a_pick_f ?_ | refine a_not ?_ | refine a_nilf ?_ | (refine a_bin ?_ ?_ <;> intro _ <;> try (exfalso; omega)) | refine a_ld hl ?_ | (refine a_st hl ?_; clear hl; intro _ hl) | refine a_ix (fun _ => ?_) | fail)
    refine o_nil (hK _ _ ?_)
    clear hK K
    refine wk_seq fun K hK => ?_
    refine wk_seq fun K2 hK2 => ?_
    refine wk_reg ?_
    repeat' (first | refine a_mov ?_ | refine a_asg ?_ | refine a_binN ?_ | refine a_notd ?_ | refine a_notb ?_ | refine a_nilc ?_ | refine a_fa ?_ | refine a_ext ?_ | refine a_lenv ?_ | refine a_lens ?_ | refine a_pick_t ?_ | refine a_pick_f ?_ | refine a_not ?_ | refine a_nilf ?_ | (refine a_bin ?_ ?_ <;> intro _ <;> try (exfalso; omega)) | refine a_ld hl ?_ | (refine a_st hl ?_; clear hl; intro _ hl) | refine a_ix (fun _ => ?_) | fail)
    refine o_nil (hK2 _ _ ?_)
    clear hK2 K2
    refine wk_block ?_
    refine wk_loopH [] rfl (fun i : Nat => [(3, .bool true), (4, .slice ta l.length tc), (7, .pointer (some ⟨b7, 0, none⟩)), (8, .int .i64 (erO (parse text))), (10, str (feed (l.take i))), (11, .int .i64 (i : Int))]) (fun i w' => i ≤ l.length ∧ w' = w5) (fun i => l.length - i) 0 ⟨rfl, rfl, rfl, rfl, (by rw [List.take_zero]; exact str_nil.symm), rfl, trivial⟩ ⟨Nat.zero_le _, rfl⟩ ?_
    rintro i t w6 ⟨hi, rfl⟩
    refine wk_seq fun K1 hK1 => ?_
    refine wk_seq fun K2 hK2 => ?_
    refine wk_reg ?_
    by_cases hi1 : i < l.length
    · obtain ⟨b, o, hp, hr⟩ := hT.at (toksL_len l) (by omega) (by omega)
      subst hp
      have hri := hr.elem tokL_len (k := i) (t := l[i]) (by simp [hi1])
      have hfe := feed_take hi1
      have hle := feed_take_le l (i + 1)
      rw [hfe, List.length_append, List.length_append] at hle
      repeat' (first | refine a_mov ?_ | refine a_asg ?_ | refine a_binN ?_ | refine a_notd ?_ | refine a_notb ?_ | refine a_nilc ?_ | refine a_fa ?_ | refine a_ext ?_ | refine a_lenv ?_ | refine a_lens ?_ | refine a_pick_t ?_ | refine a_pick_f ?_ | refine a_not ?_ | refine a_nilf ?_ | (refine a_bin ?_ ?_ <;> intro _ <;> try (exfalso; omega)) | refine a_ld hl ?_ | (refine a_st hl ?_; clear hl; intro _ hl) | refine a_ix (fun _ => ?_) | fail)
      refine o_nil (hK2 _ _ ?_)
      clear hK2 K2
      refine wk_cond_t rfl ?_
      refine wk_skip (hK1 _ _ ?_)
      clear hK1 K1
      refine wk_seq fun K1 hK1 => ?_
      refine wk_block ?_
      refine wk_reg ?_
      repeat' (first | refine a_mov ?_ | refine a_asg ?_ | refine a_binN ?_ | refine a_notd ?_ | refine a_notb ?_ | refine a_nilc ?_ | refine a_fa ?_ | refine a_ext ?_ | refine a_lenv ?_ | refine a_lens ?_ | refine a_pick_t ?_ | refine a_pick_f ?_ | refine a_not ?_ | refine a_nilf ?_ | (refine a_bin ?_ ?_ <;> intro _ <;> try (exfalso; omega)) | refine a_ld hl ?_ | (refine a_st hl ?_; clear hl; intro _ hl) | refine a_ix (fun _ => ?_) | fail)
      refine a_idx (c := 4) i rfl ?_
      repeat' (first | refine a_mov ?_ | refine a_asg ?_ | refine a_binN ?_ | refine a_notd ?_ | refine a_notb ?_ | refine a_nilc ?_ | refine a_fa ?_ | refine a_ext ?_ | refine a_lenv ?_ | refine a_lens ?_ | refine a_pick_t ?_ | refine a_pick_f ?_ | refine a_not ?_ | refine a_nilf ?_ | (refine a_bin ?_ ?_ <;> intro _ <;> try (exfalso; omega)) | refine a_ld hl ?_ | (refine a_st hl ?_; clear hl; intro _ hl) | refine a_ix (fun _ => ?_) | fail)
      refine a_row hri ?_
      refine o_cat (a := feed (l.take i)) (b := l[i].text) (by omega) rfl rfl rfl ?_
      refine o_cat (a := feed (l.take i) ++ l[i].text) (b := [10]) (by simp; omega) rfl rfl (by simp only [str_eq]; rfl) ?_
      rw [← hfe]
      repeat' (first | refine a_mov ?_ | refine a_asg ?_ | refine a_binN ?_ | refine a_notd ?_ | refine a_notb ?_ | refine a_nilc ?_ | refine a_fa ?_ | refine a_ext ?_ | refine a_lenv ?_ | refine a_lens ?_ | refine a_pick_t ?_ | refine a_pick_f ?_ | refine a_not ?_ | refine a_nilf ?_ | (refine a_bin ?_ ?_ <;> intro _ <;> try (exfalso; omega)) | refine a_ld hl ?_ | (refine a_st hl ?_; clear hl; intro _ hl) | refine a_ix (fun _ => ?_) | fail)
      refine o_nil (hK1 _ _ ?_)
      clear hK1 K1
      refine wk_reg ?_
      repeat' (first | refine a_mov ?_ | refine a_asg ?_ | refine a_binN ?_ | refine a_notd ?_ | refine a_notb ?_ | refine a_nilc ?_ | refine a_fa ?_ | refine a_ext ?_ | refine a_lenv ?_ | refine a_lens ?_ | refine a_pick_t ?_ | refine a_pick_f ?_ | refine a_not ?_ | refine a_nilf ?_ | (refine a_bin ?_ ?_ <;> intro _ <;> try (exfalso; omega)) | refine a_ld hl ?_ | (refine a_st hl ?_; clear hl; intro _ hl) | refine a_ix (fun _ => ?_) | fail)
      exact o_nil ⟨i + 1, ⟨rfl, rfl, rfl, rfl, rfl, rfl, trivial⟩, rfl, ⟨hi1, rfl⟩, by omega⟩
    obtain rfl : i = l.length := by omega
    rw [List.take_length]
    repeat' (first | refine a_mov ?_ | refine a_asg ?_ | refine a_binN ?_ | refine a_notd ?_ | refine a_notb ?_ | refine a_nilc ?_ | refine a_fa ?_ | refine a_ext ?_ | refine a_lenv ?_ | refine a_lens ?_ | refine a_pick_t ?_ | refine a_pick_f ?_ | refine a_not ?_ | refine a_nilf ?_ | (refine a_bin ?_ ?_ <;> intro _ <;> try (exfalso; omega)) | refine a_ld hl ?_ | (refine a_st hl ?_; clear hl; intro _ hl) | refine a_ix (fun _ => ?_) | fail)
    refine o_nil (hK2 _ _ ?_)
    clear hK2 K2
    refine wk_cond_f rfl ?_
    refine wk_exit ?_
    refine blockK_same ?_
    refine hK _ _ ?_
    clear hK1 K1
    clear hK K
    refine wk_seq fun K hK => ?_
    refine wk_reg ?_
    refine a_mov ?_
    refine a_fn (parse_calls2 (feed l) w6) ?_
    rintro _ w7 ⟨kb, ab, rfl, hkb, hx7⟩
    rw [← hlk1, ← hlk2] at *
    repeat' (first | refine a_mov ?_ | refine a_asg ?_ | refine a_binN ?_ | refine a_notd ?_ | refine a_notb ?_ | refine a_nilc ?_ | refine a_fa ?_ | refine a_ext ?_ | refine a_lenv ?_ | refine a_lens ?_ | refine a_pick_t ?_ | refine a_pick_f ?_ | refine a_not ?_ | refine a_nilf ?_ | (refine a_bin ?_ ?_ <;> intro _ <;> try (exfalso; omega)) | refine a_ld hl ?_ | (refine a_st hl ?_; clear hl; intro _ hl) | refine a_ix (fun _ => ?_) | fail)
    refine o_alloc (LH.start w7 (fun _ => False)) [.int .i64 0, .string "".toByteArray, .int .i64 0, .slice none 0 0] (by kernel_rfl) rfl ?_
    intro b12 w8 hb12 hl
    refine o_putN (us := snL (snO (parse text)) kb) hl rfl rfl rfl (snL_one hkb) rfl (.here rfl rfl) ?_
    clear hl
    intro w9 hl
    have hrb : Row w9 b12 0 (snL (snO (parse text)) kb) := hl.rowL (vs := snL (snO (parse text)) kb) 0 0 4 rfl
    have hx9 := hl.done
    clear hl
    replace hkb := hkb.ext hx9
    replace hka := (hka.ext hx7).ext hx9
    replace hra := (hra.ext hx7).ext hx9
    have hx9' := (hx5'.trans hx7).trans hx9
    clear hx5' hx7 hx9 hT
    repeat' (first | refine a_mov ?_ | refine a_asg ?_ | refine a_binN ?_ | refine a_notd ?_ | refine a_notb ?_ | refine a_nilc ?_ | refine a_fa ?_ | refine a_ext ?_ | refine a_lenv ?_ | refine a_lens ?_ | refine a_pick_t ?_ | refine a_pick_f ?_ | refine a_not ?_ | refine a_nilf ?_ | (refine a_bin ?_ ?_ <;> intro _ <;> try (exfalso; omega)) | refine a_ld hl ?_ | (refine a_st hl ?_; clear hl; intro _ hl) | refine a_ix (fun _ => ?_) | fail)
    refine o_nil (hK _ _ ?_)
    clear hK K
    refine wk_seq fun K hK => ?_
    refine wk_seq fun K2 hK2 => ?_
    refine wk_reg ?_
    repeat' (first | refine a_mov ?_ | refine a_asg ?_ | refine a_binN ?_ | refine a_notd ?_ | refine a_notb ?_ | refine a_nilc ?_ | refine a_fa ?_ | refine a_ext ?_ | refine a_lenv ?_ | refine a_lens ?_ | refine a_pick_t ?_ | refine a_pick_f ?_ | refine a_not ?_ | refine a_nilf ?_ | (refine a_bin ?_ ?_ <;> intro _ <;> try (exfalso; omega)) | refine a_ld hl ?_ | (refine a_st hl ?_; clear hl; intro _ hl) | refine a_ix (fun _ => ?_) | fail)
    refine a_all hra ?_
    refine a_all hrb ?_
    refine a_fn (sameS_calls (snO (parse text)) (snO (parse text)) w9 ka kb hka hkb (snO_fit text)) ?_
    rintro _ w10 ⟨q, rfl, hq, hx10⟩
    obtain rfl : q = true := hq.2 rfl
    repeat' (first | refine a_mov ?_ | refine a_asg ?_ | refine a_binN ?_ | refine a_notd ?_ | refine a_notb ?_ | refine a_nilc ?_ | refine a_fa ?_ | refine a_ext ?_ | refine a_lenv ?_ | refine a_lens ?_ | refine a_pick_t ?_ | refine a_pick_f ?_ | refine a_not ?_ | refine a_nilf ?_ | (refine a_bin ?_ ?_ <;> intro _ <;> try (exfalso; omega)) | refine a_ld hl ?_ | (refine a_st hl ?_; clear hl; intro _ hl) | refine a_ix (fun _ => ?_) | fail)
    refine o_nil (hK2 _ _ ?_)
    clear hK2 K2
    refine wk_cond_f rfl ?_
    refine wk_skip (hK _ _ ?_)
    clear hK K
    refine wk_seq fun K hK => ?_
    refine wk_reg ?_
    refine a_mov ?_
    refine o_cat (a := [40]) (b := feed l) (by simp; omega) rfl (by simp only [str_eq]; rfl) rfl ?_
    refine o_cat (a := [40] ++ feed l) (b := [41]) (by simp; omega) rfl rfl (by simp only [str_eq]; rfl) ?_
    refine a_fn (parse_calls2 (([40] ++ feed l) ++ [41]) w10) ?_
    rintro _ w11 ⟨kc, ac, rfl, hkc, hx11⟩
    generalize hp3 : parse (([40] ++ feed l) ++ [41]) = p3 at hkc ⊢
    rw [show (([40] ++ feed l) ++ [41] : Tx) = 40 :: (feed l ++ [41]) by simp] at hp3
    repeat' (first | refine a_mov ?_ | refine a_asg ?_ | refine a_binN ?_ | refine a_notd ?_ | refine a_notb ?_ | refine a_nilc ?_ | refine a_fa ?_ | refine a_ext ?_ | refine a_lenv ?_ | refine a_lens ?_ | refine a_pick_t ?_ | refine a_pick_f ?_ | refine a_not ?_ | refine a_nilf ?_ | (refine a_bin ?_ ?_ <;> intro _ <;> try (exfalso; omega)) | refine a_ld hl ?_ | (refine a_st hl ?_; clear hl; intro _ hl) | refine a_ix (fun _ => ?_) | fail)
    refine o_alloc (LH.start w11 (fun _ => False)) [.int .i64 0, .string "".toByteArray, .int .i64 0, .slice none 0 0] (by kernel_rfl) rfl ?_
    intro b15 w12 hb15 hl
    refine o_putN (us := snL (snO p3) kc) hl rfl rfl rfl (snL_one hkc) rfl (.here rfl rfl) ?_
    clear hl
    intro w13 hl
    have hrc : Row w13 b15 0 (snL (snO p3) kc) := hl.rowL (vs := snL (snO p3) kc) 0 0 4 rfl
    have hx13 := hl.done
    clear hl
    replace hkc := hkc.ext hx13
    replace hka := ((hka.ext hx10).ext hx11).ext hx13
    replace hra := ((hra.ext hx10).ext hx11).ext hx13
    have hx13' := ((hx9'.trans hx10).trans hx11).trans hx13
    clear hx9' hx10 hx11 hx13 hkb hrb
    repeat' (first | refine a_mov ?_ | refine a_asg ?_ | refine a_binN ?_ | refine a_notd ?_ | refine a_notb ?_ | refine a_nilc ?_ | refine a_fa ?_ | refine a_ext ?_ | refine a_lenv ?_ | refine a_lens ?_ | refine a_pick_t ?_ | refine a_pick_f ?_ | refine a_not ?_ | refine a_nilf ?_ | (refine a_bin ?_ ?_ <;> intro _ <;> try (exfalso; omega)) | refine a_ld hl ?_ | (refine a_st hl ?_; clear hl; intro _ hl) | refine a_ix (fun _ => ?_) | fail)
    refine o_nil (hK _ _ ?_)
    clear hK K
    refine wk_seq fun K hK => ?_
    refine wk_reg ?_
    by_cases hz : erO (parse text) = 0
    · have h3 := hparen _ (parse_inl hz)
      rw [hp3] at h3
      subst h3
      have hz3 : erO (Sum.inl (snO (parse text)) : Sn ⊕ (Int × Int)) = 0 := rfl
      repeat' (first | refine a_mov ?_ | refine a_asg ?_ | refine a_binN ?_ | refine a_notd ?_ | refine a_notb ?_ | refine a_nilc ?_ | refine a_fa ?_ | refine a_ext ?_ | refine a_lenv ?_ | refine a_lens ?_ | refine a_pick_t ?_ | refine a_pick_f ?_ | refine a_not ?_ | refine a_nilf ?_ | (refine a_bin ?_ ?_ <;> intro _ <;> try (exfalso; omega)) | refine a_ld hl ?_ | (refine a_st hl ?_; clear hl; intro _ hl) | refine a_ix (fun _ => ?_) | fail)
      refine a_all hra ?_
      refine a_all hrc ?_
      refine a_fn (sameS_calls (snO (parse text)) (snO (parse text)) w13 ka kc hka hkc (snO_fit text)) ?_
      rintro _ w14 ⟨q, rfl, hq, hx14⟩
      obtain rfl : q = true := hq.2 rfl
      repeat' (first | refine a_mov ?_ | refine a_asg ?_ | refine a_binN ?_ | refine a_notd ?_ | refine a_notb ?_ | refine a_nilc ?_ | refine a_fa ?_ | refine a_ext ?_ | refine a_lenv ?_ | refine a_lens ?_ | refine a_pick_t ?_ | refine a_pick_f ?_ | refine a_not ?_ | refine a_nilf ?_ | (refine a_bin ?_ ?_ <;> intro _ <;> try (exfalso; omega)) | refine a_ld hl ?_ | (refine a_st hl ?_; clear hl; intro _ hl) | refine a_ix (fun _ => ?_) | fail)
      refine o_nil (hK _ _ ?_)
      refine wk_ret (retQ_tmp1 Tryd.results3 (by decide) rfl (by conv => lhs; whnf) ?_)
      exact ⟨rfl, hx13'.trans hx14⟩
    · repeat' (first | refine a_mov ?_ | refine a_asg ?_ | refine a_binN ?_ | refine a_notd ?_ | refine a_notb ?_ | refine a_nilc ?_ | refine a_fa ?_ | refine a_ext ?_ | refine a_lenv ?_ | refine a_lens ?_ | refine a_pick_t ?_ | refine a_pick_f ?_ | refine a_not ?_ | refine a_nilf ?_ | (refine a_bin ?_ ?_ <;> intro _ <;> try (exfalso; omega)) | refine a_ld hl ?_ | (refine a_st hl ?_; clear hl; intro _ hl) | refine a_ix (fun _ => ?_) | fail)
      refine o_nil (hK _ _ ?_)
      refine wk_ret (retQ_tmp1 Tryd.results3 (by decide) rfl (by conv => lhs; whnf) ?_)
      exact ⟨rfl, hx13'⟩
end Go.Proofs
