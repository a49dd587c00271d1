/-
  The statement about structure, walked.
-/
import Derived.Test.YtebaoilkpedppaaGreatDoorStAa
import Derived.Test.YtebaoilkpedppaaGreatDoorStAb
set_option linter.unusedVariables false
set_option linter.unusedSimpArgs false
set_option linter.unnecessarySimpa false
set_option maxRecDepth 10000
namespace Go.Sta
theorem fit_back {s : Sn} (h : fitS s) : fitS (.node s.op [] 0 s.kids.reverse) := by
  obtain ⟨h1, h2, h3⟩ := (fitS_eq s).1 h
  refine (fitS_eq _).2 ⟨by simp [Sn.name], ?_, fitL_all fun k hk => fitL_mem h3 k (List.mem_reverse.1 hk)⟩
  show s.kids.reverse.length ≤ _
  rw [List.length_reverse]; exact h2
theorem rev_take_succ {α : Type} {l : List α} {j : Nat} (h : j < l.length) : l.reverse.take (j + 1) = l.reverse.take j ++ [l[l.length - 1 - j]] := by
  rw [List.take_succ_eq_append_getElem (by simpa using h)]
  congr 2
  rw [List.getElem_reverse]
end Go.Sta
namespace Go.Proofs
open Go Go.Pd Go.Sta
attribute [local irreducible] OpsL W RetQ OpsQ OpsC
set_option maxHeartbeats 8000000 in
theorem Structure_calls {s : Sn} {E : Env} {kv hv lv : Value} {w : World} (ht : Tabs w) (hs : SnIn w s kv) (hH : HapIn w E.h hv) (hL : StuIn w E.l lv) :
    Calls Tryz.prog 6 #[.agg (snL s kv).toArray, .int .i64 E.day, hv, .int .i64 E.known, lv] w (fun e w' => ∃ v, e = .returned v ∧ v = .bool true ∧ Ext w w') := by
  obtain ⟨hk, hfit⟩ := hs
  obtain ⟨ka, kc, rfl, hkc⟩ := hk.shape
  obtain ⟨ha, hc, rfl, -⟩ := hH.1.shape (flat_length hapL_len E.h) (by omega)
  obtain ⟨la, lc, rfl, -⟩ := hL.1.shape (flat_length stuL_len E.l) (by omega)
  have hkl := ((fitS_eq s).1 hfit).2.1
  refine calls_of Tryz.func6 rfl Tryz.ntmps6 rfl ?_
  refine wk_seq fun K hK => ?_
  refine wk_reg ?_
  refine o_box (LH.start w (fun _ => False)) (snL s (.slice ka s.kids.length kc)) rfl rfl rfl ?_
  intro b5 w1 hb5 hl
  refine a_asg ?_
  refine o_nil (hK _ _ ?_)
  clear hK K
  refine wk_seq fun K hK => ?_
  refine wk_reg ?_
  refine a_fn (head_calls (ht.ext hl.done)) ?_
  rintro _ w2 ⟨rfl, hx2⟩
  replace hl := hl.ext hx2
  refine a_asg ?_
  refine o_nil (hK _ _ ?_)
  clear hK K hx2
  refine wk_seq fun K hK => ?_
  refine wk_seq fun K2 hK2 => ?_
  refine wk_reg ?_
  refine a_all (hl.rowL (vs := snL s (.slice ka s.kids.length kc)) 0 0 4 rfl) ?_
  refine a_mov ?_
  refine a_mov ?_
  refine a_fn (few_calls (hk.ext hl.done)) ?_
  rintro _ w3 ⟨bf, rfl, hfew, hx3⟩
  replace hl := hl.ext hx3
  clear hx3
  have hup : ∀ {w' : World}, Ext w w' → ((Value.bool true = .bool true) ∧ Ext w w') := fun h => ⟨rfl, h⟩
  cases bf
  · repeat' (first | refine a_mov ?_ | refine a_asg ?_ | refine a_binN ?_ | refine a_notd ?_ | refine a_notb ?_ | refine a_nilc ?_ | refine a_fa ?_ | refine a_ext ?_ | refine a_lenv ?_ | refine a_lens ?_ | refine a_pick_t ?_ | refine a_pick_f ?_ | refine a_not ?_ | refine a_nilf ?_ | (refine a_bin ?_ ?_ <;> intro _ <;> try (exfalso; omega)) | refine a_ld hl ?_ | (refine a_st hl ?_; clear hl; intro _ hl) | refine a_ix (fun _ => ?_) | fail)
    refine o_nil (hK2 _ _ ?_)
    clear hK2 K2
    refine wk_cond_t rfl ?_
    refine wk_seq fun K2 hK2 => ?_
    refine wk_reg ?_
    repeat' (first | refine a_mov ?_ | refine a_asg ?_ | refine a_binN ?_ | refine a_notd ?_ | refine a_notb ?_ | refine a_nilc ?_ | refine a_fa ?_ | refine a_ext ?_ | refine a_lenv ?_ | refine a_lens ?_ | refine a_pick_t ?_ | refine a_pick_f ?_ | refine a_not ?_ | refine a_nilf ?_ | (refine a_bin ?_ ?_ <;> intro _ <;> try (exfalso; omega)) | refine a_ld hl ?_ | (refine a_st hl ?_; clear hl; intro _ hl) | refine a_ix (fun _ => ?_) | fail)
    refine o_nil (hK2 _ _ ?_)
    refine wk_ret (retQ_tmp1 Tryz.results6 (by decide) rfl (by conv => lhs; whnf) ?_)
    exact ⟨rfl, hl.done⟩
  obtain ⟨hn1, hn2⟩ := hfew rfl
  repeat' (first | refine a_mov ?_ | refine a_asg ?_ | refine a_binN ?_ | refine a_notd ?_ | refine a_notb ?_ | refine a_nilc ?_ | refine a_fa ?_ | refine a_ext ?_ | refine a_lenv ?_ | refine a_lens ?_ | refine a_pick_t ?_ | refine a_pick_f ?_ | refine a_not ?_ | refine a_nilf ?_ | (refine a_bin ?_ ?_ <;> intro _ <;> try (exfalso; omega)) | refine a_ld hl ?_ | (refine a_st hl ?_; clear hl; intro _ hl) | refine a_ix (fun _ => ?_) | fail)
  refine a_all (hl.rowL (vs := snL s (.slice ka s.kids.length kc)) 0 0 4 rfl) ?_
  refine a_fn (valid_calls (hk.ext hl.done) hfit) ?_
  rintro _ w4 ⟨rfl, hx4⟩
  replace hl := hl.ext hx4
  clear hx4
  have hr4 : Row w4 b5 0 (snL s (.slice ka s.kids.length kc)) := hl.rowL (vs := snL s (.slice ka s.kids.length kc)) 0 0 4 rfl
  refine a_notb ?_
  rcases Classical.em (validB s = true ∧ (s.op = 8 ∨ s.op = 9)) with hgo | hgo
  rotate_left
  · cases hv : validB s
    · repeat' (first | refine a_mov ?_ | refine a_asg ?_ | refine a_binN ?_ | refine a_notd ?_ | refine a_notb ?_ | refine a_nilc ?_ | refine a_fa ?_ | refine a_ext ?_ | refine a_lenv ?_ | refine a_lens ?_ | refine a_pick_t ?_ | refine a_pick_f ?_ | refine a_not ?_ | refine a_nilf ?_ | (refine a_bin ?_ ?_ <;> intro _ <;> try (exfalso; omega)) | refine a_ld hl ?_ | (refine a_st hl ?_; clear hl; intro _ hl) | refine a_ix (fun _ => ?_) | refine a_row hr4 ?_ | fail)
      all_goals
        refine o_nil (hK2 _ _ ?_)
        clear hK2 K2
        refine wk_cond_t rfl ?_
        refine wk_seq fun K2 hK2 => ?_
        refine wk_reg ?_
        refine a_mov ?_
        refine a_asg ?_
        refine o_nil (hK2 _ _ ?_)
        refine wk_ret (retQ_tmp1 Tryz.results6 (by decide) rfl (by conv => lhs; whnf) ?_)
        exact ⟨rfl, hl.done⟩
    · have hno : ¬ (s.op = 8 ∨ s.op = 9) := fun h => hgo ⟨hv, h⟩
      repeat' (first | refine a_mov ?_ | refine a_asg ?_ | refine a_binN ?_ | refine a_notd ?_ | refine a_notb ?_ | refine a_nilc ?_ | refine a_fa ?_ | refine a_ext ?_ | refine a_lenv ?_ | refine a_lens ?_ | refine a_pick_t ?_ | refine a_pick_f ?_ | refine a_not ?_ | refine a_nilf ?_ | (refine a_bin ?_ ?_ <;> intro _ <;> try (exfalso; omega)) | refine a_ld hl ?_ | (refine a_st hl ?_; clear hl; intro _ hl) | refine a_ix (fun _ => ?_) | refine a_row hr4 ?_ | fail)
      all_goals
        refine o_nil (hK2 _ _ ?_)
        clear hK2 K2
        refine wk_cond_t rfl ?_
        refine wk_seq fun K2 hK2 => ?_
        refine wk_reg ?_
        refine a_mov ?_
        refine a_asg ?_
        refine o_nil (hK2 _ _ ?_)
        refine wk_ret (retQ_tmp1 Tryz.results6 (by decide) rfl (by conv => lhs; whnf) ?_)
        exact ⟨rfl, hl.done⟩
  obtain ⟨hv, hop⟩ := hgo
  rw [hv]
  have hall := fun h => holds_all (E := E) hv h
  have hany := fun h => holds_any (E := E) hv h
  have hback := holds_back (E := E) hv hop
  have hsm : s.kids.length ≤ 200 := by
    have := ((valid_iff s).1 hv).1
    rw [cnt_eq] at this
    have := len_le_cntL s.kids
    omega
  refine o_cut [] (fun _ : Unit => [(1, .int .i64 E.day), (2, .slice ha E.h.length hc), (3, .int .i64 E.known), (4, .slice la E.l.length lc), (5, .pointer (some ⟨b5, 0, none⟩)), (11, .bool true), (38, .bool false)]) (fun _ w' => w' = w4) ?_ ?_
  · repeat' (first | refine a_mov ?_ | refine a_asg ?_ | refine a_binN ?_ | refine a_notd ?_ | refine a_notb ?_ | refine a_nilc ?_ | refine a_fa ?_ | refine a_ext ?_ | refine a_lenv ?_ | refine a_lens ?_ | refine a_pick_t ?_ | refine a_pick_f ?_ | refine a_not ?_ | refine a_nilf ?_ | (refine a_bin ?_ ?_ <;> intro _ <;> try (exfalso; omega)) | refine a_ld hl ?_ | (refine a_st hl ?_; clear hl; intro _ hl) | refine a_ix (fun _ => ?_) | refine a_row hr4 ?_ | fail)
    all_goals exact o_nil ⟨(), ⟨rfl, rfl, rfl, rfl, rfl, rfl, rfl, trivial⟩, rfl, rfl⟩
  rintro _ t w4' rfl
  refine hK2 _ _ ?_
  clear hK2 K2
  refine wk_cond_f rfl ?_
  refine wk_skip (hK _ _ ?_)
  clear hK K
  refine wk_seq fun K hK => ?_
  refine wk_reg ?_
  refine a_asg ?_
  refine a_asg ?_
  refine o_nil (hK _ _ ?_)
  clear hK K
  refine wk_seq fun K hK => ?_
  refine wk_reg ?_
  refine a_fa ?_
  refine a_row hr4 ?_
  refine o_build [.int .i64 s.op, .string ⟨#[]⟩, .int .i64 0, .slice none 0 0] rfl (by kernel_rfl) ?_
  refine o_alloc hl [.int .i64 0, .string "".toByteArray, .int .i64 0, .slice none 0 0] (by kernel_rfl) rfl ?_
  clear hl
  intro b14 w5 hb14 hl
  refine o_putN (us := [.int .i64 s.op, .string ⟨#[]⟩, .int .i64 0, .slice none 0 0]) hl rfl rfl rfl rfl rfl (.here rfl rfl) ?_
  clear hl
  intro w6 hl
  have hl : LH w (fun _ => False) w6 ((b14, Obj.cells #[.int .i64 s.op, .string ⟨#[]⟩, .int .i64 0, .slice none 0 0] 24 (0, 0)) :: (b5, Obj.cells (snL s (.slice ka s.kids.length kc)).toArray 24 (0, 0)) :: []) := hl
  refine o_nil (hK _ _ ?_)
  clear hK K hr4
  refine wk_seq fun K hK => ?_
  refine wk_seq fun K2 hK2 => ?_
  refine wk_reg ?_
  repeat' (first | refine a_mov ?_ | refine a_asg ?_ | refine a_binN ?_ | refine a_notd ?_ | refine a_notb ?_ | refine a_nilc ?_ | refine a_fa ?_ | refine a_ext ?_ | refine a_lenv ?_ | refine a_lens ?_ | refine a_pick_t ?_ | refine a_pick_f ?_ | refine a_not ?_ | refine a_nilf ?_ | (refine a_bin ?_ ?_ <;> intro _ <;> try (exfalso; omega)) | refine a_ld hl ?_ | (refine a_st hl ?_; clear hl; intro _ hl) | refine a_ix (fun _ => ?_) | refine a_row (hl.rowL (vs := snL s (.slice ka s.kids.length kc)) 1 0 4 rfl) ?_ | fail)
  refine o_nil (hK2 _ _ ?_)
  clear hK2 K2
  refine wk_block ?_
  refine wk_loopH [] rfl (fun q : Nat × List (Sn × Value) × Value × List (Nat × Obj) => [(1, .int .i64 E.day), (2, .slice ha E.h.length hc), (3, .int .i64 E.known), (4, .slice la E.l.length lc), (5, .pointer (some ⟨b5, 0, none⟩)), (11, .bool true), (12, .bool ((s.kids.reverse.take q.1).all (holds E))), (13, .bool ((s.kids.reverse.take q.1).any (holds E))), (14, .pointer (some ⟨b14, 0, none⟩)), (15, .int .i64 ((s.kids.length : Int) - 1 - q.1))])
    (fun q w' => (q.1 ≤ s.kids.length ∧ q.2.1.map (·.1) = s.kids.reverse.take q.1 ∧ ∀ p ∈ q.2.1, KA w p.1.kids p.2) ∧ LH w (fun _ => False) w' ((b14, Obj.cells #[.int .i64 s.op, .string ⟨#[]⟩, .int .i64 0, q.2.2.1] 24 (0, 0)) :: (b5, Obj.cells (snL s (.slice ka s.kids.length kc)).toArray 24 (0, 0)) :: q.2.2.2) ∧ Acc q.2.2.1 4 24 q.1 (q.2.1.flatMap kidS) q.2.2.2) (fun q => s.kids.length - q.1) (0, [], .slice none 0 0, []) ⟨rfl, rfl, rfl, rfl, rfl, rfl, rfl, rfl, rfl, by rw [show (s.kids.length : Int) - 1 - ((0 : Nat) : Int) = (s.kids.length : Int) - 1 by omega]; rfl, trivial⟩ ⟨⟨Nat.zero_le _, rfl, fun p hp => nomatch hp⟩, hl, Acc.nil _ _⟩ ?_
  clear hl
  rintro ⟨j, ps, v, acc⟩ t w7 ⟨⟨hj, hmap, hps⟩, hl, hacc⟩
  simp only at hj hmap hps hl hacc
  refine wk_seq fun K1 hK1 => ?_
  refine wk_seq fun K2 hK2 => ?_
  refine wk_reg ?_
  by_cases hj1 : j < s.kids.length
  · have hidx : s.kids.length - 1 - j < s.kids.length := by omega
    obtain ⟨b, o, kv1, hpp, hr0, hk1⟩ := hk.at hidx
    have hz : (s.kids.length : Int) - 1 - (j : Int) = ((s.kids.length - 1 - j : Nat) : Int) := by omega
    have htake := rev_take_succ hj1
    generalize hkid : s.kids[s.kids.length - 1 - j] = kid at hr0 hk1 htake
    have hmem : kid ∈ s.kids := hkid ▸ List.getElem_mem hidx
    have hone := snL_one hk1
    have hfk := fitL_mem ((fitS_eq s).1 hfit).2.2 kid hmem
    clear hkid
    generalize hA : (s.kids.reverse.take j).all (holds E) = A
    generalize hS : (s.kids.reverse.take j).any (holds E) = S
    rw [hz]
    repeat' (first | refine a_mov ?_ | refine a_asg ?_ | refine a_binN ?_ | refine a_notd ?_ | refine a_notb ?_ | refine a_nilc ?_ | refine a_fa ?_ | refine a_ext ?_ | refine a_lenv ?_ | refine a_lens ?_ | refine a_pick_t ?_ | refine a_pick_f ?_ | refine a_not ?_ | refine a_nilf ?_ | (refine a_bin ?_ ?_ <;> intro _ <;> try (exfalso; omega)) | refine a_ld hl ?_ | (refine a_st hl ?_; clear hl; intro _ hl) | refine a_ix (fun _ => ?_) | fail)
    refine o_nil (hK2 _ _ ?_)
    clear hK2 K2
    refine wk_cond_t rfl ?_
    refine wk_skip (hK1 _ _ ?_)
    clear hK1 K1
    refine wk_seq fun K1 hK1 => ?_
    refine wk_block ?_
    refine wk_seq fun K2 hK2 => ?_
    refine wk_drawP [0, 1, 2, 3, 4, 5, 6, 9] [1] [7, 8, 10] [] [] (fun w' => To w7 w' w7.heap) (fun w' => w'.heap[b14]? = some (Obj.cells #[.int .i64 s.op, .string ⟨#[]⟩, .int .i64 0, v] 24 (0, 0))) rfl (by kernel_rfl) (fun _ _ _ _ h => by first | exact h | (simp only [BlockK, NoGoto, RetQ] at h)) (fun _ h => h) (fun w' h => (hl.heap h).get 0 rfl) ?_
    repeat' (first | refine q_mov ?_ | refine q_asg ?_ | refine q_fa ?_ | refine q_ext ?_ | refine q_binN ?_ | refine q_notd ?_ | refine q_notb ?_ | refine q_pick_t ?_ | refine q_pick_f ?_ | refine q_nilc ?_ | refine q_skip ?_ | refine q_lens ?_ | refine q_lenv ?_ | refine q_nil ?_ | refine q_ix (fun _ => ?_) | (refine q_bin ?_ ?_ <;> intro _ <;> try (exfalso; omega)) | refine q_late rfl rfl rfl rfl (fun w' hw' => r_load rfl rfl (cell_of_block hw' rfl)) ?_ | refine q_row (fun w_ hw_ => (hl.heap hw_).rowL (vs := snL s (.slice ka s.kids.length kc)) 1 0 4 rfl) ?_ | refine q_idx (c := 4) (s.kids.length - 1 - j) hpp ?_ | refine q_all (fun w_ hw_ => (hr0.ext hl.done).ext (Upd.of_heap hw_)) ?_)
    intro w8 hw8
    replace hl := hl.heap hw8
    refine opsD_tail rfl rfl ?_
    refine o_buildSlice hl (snL kid kv1) rfl rfl ?_ ?_
    · obtain ⟨k1a, k1c, rfl, -⟩ := hk1.shape
      kernel_rfl
    clear hl
    intro bt w9 hbt hl
    refine o_nil ⟨.inl (hl.get 1 rfl), ?_⟩
    refine opsD_tail rfl rfl ?_
    refine o_append (us := snL kid kv1) (bl' := [(bt, _), (b14, _), (b5, _)]) (bytes := 56) (q := 1) hl hacc (hl.rowL (vs := snL kid kv1) 0 0 4 rfl) rfl hone (by decide) (by omega) (by omega) rfl rfl (by kernel_rfl) rfl rfl ?_
    clear hl
    intro v' w10 acc' hl hacc'
    obtain ⟨va, vc, rfl⟩ := hacc'.shape
    refine o_nil ⟨.inr (by kernel_rfl), ?_⟩
    refine opsD_tail rfl rfl ?_
    refine o_put1 (b := b14) (o := 3) (v := .slice va (j + 1) vc) hl rfl rfl rfl ⟨rfl, rfl⟩ rfl (.there (.here rfl rfl)) ?_
    clear hl
    intro w11 hl
    refine o_nil ⟨.inr (by kernel_rfl), ?_⟩
    refine opsD_nil ?_
    unfold PostQ
    refine q_nil ?_
    refine hK2 _ _ ?_
    clear hK2 K2
    have hl : LH w (fun _ => False) w11 ((b14, Obj.cells #[.int .i64 s.op, .string ⟨#[]⟩, .int .i64 0, .slice va (j + 1) vc] 24 (0, 0)) :: (b5, Obj.cells (snL s (.slice ka s.kids.length kc)).toArray 24 (0, 0)) :: acc') := hl.sub (List.sublist_cons_self _ _)
    refine wk_seq fun K2 hK2 => ?_
    refine wk_reg ?_
    repeat' (first | refine a_mov ?_ | refine a_asg ?_ | refine a_binN ?_ | refine a_notd ?_ | refine a_notb ?_ | refine a_nilc ?_ | refine a_fa ?_ | refine a_ext ?_ | refine a_lenv ?_ | refine a_lens ?_ | refine a_pick_t ?_ | refine a_pick_f ?_ | refine a_not ?_ | refine a_nilf ?_ | (refine a_bin ?_ ?_ <;> intro _ <;> try (exfalso; omega)) | refine a_ld hl ?_ | (refine a_st hl ?_; clear hl; intro _ hl) | refine a_ix (fun _ => ?_) | refine a_row (hl.rowL (vs := snL s (.slice ka s.kids.length kc)) 1 0 4 rfl) ?_ | refine a_idx (c := 4) (s.kids.length - 1 - j) hpp ?_ | refine a_all (hr0.ext hl.done) ?_ | fail)
    refine a_fn (holds_calls (E := E) (KA.ext hk1 hl.done) hfk (hH.1.ext hl.done) (hL.1.ext hl.done) (by omega) (by omega)) ?_
    rintro _ w12 ⟨rfl, hx12⟩
    replace hl := hl.ext hx12
    refine a_asg ?_
    refine o_nil (hK2 _ _ ?_)
    clear hK2 K2
    have hA2 : (s.kids.reverse.take (j + 1)).all (holds E) = (A && holds E kid) := by rw [htake, List.all_append, hA]; simp
    have hS2 : (s.kids.reverse.take (j + 1)).any (holds E) = (S || holds E kid) := by rw [htake, List.any_append, hS]; simp
    have hz2 : ((s.kids.length - 1 - j : Nat) : Int) - 1 = (s.kids.length : Int) - 1 - ((j + 1 : Nat) : Int) := by omega
    have hfin : (s.kids.length - (j + 1)) < s.kids.length - j := by omega
    cases A <;> cases S
    all_goals
      refine wk_seq fun K2 hK2 => ?_
      refine wk_reg ?_
      repeat' (first | refine a_mov ?_ | refine a_asg ?_ | refine a_binN ?_ | refine a_notd ?_ | refine a_notb ?_ | refine a_nilc ?_ | refine a_fa ?_ | refine a_ext ?_ | refine a_lenv ?_ | refine a_lens ?_ | refine a_pick_t ?_ | refine a_pick_f ?_ | refine a_not ?_ | refine a_nilf ?_ | (refine a_bin ?_ ?_ <;> intro _ <;> try (exfalso; omega)) | refine a_ld hl ?_ | (refine a_st hl ?_; clear hl; intro _ hl) | refine a_ix (fun _ => ?_) | fail)
      refine o_nil (hK2 _ _ ?_)
      clear hK2 K2
      refine wk_reg ?_
      repeat' (first | refine a_mov ?_ | refine a_asg ?_ | refine a_binN ?_ | refine a_notd ?_ | refine a_notb ?_ | refine a_nilc ?_ | refine a_fa ?_ | refine a_ext ?_ | refine a_lenv ?_ | refine a_lens ?_ | refine a_pick_t ?_ | refine a_pick_f ?_ | refine a_not ?_ | refine a_nilf ?_ | (refine a_bin ?_ ?_ <;> intro _ <;> try (exfalso; omega)) | refine a_ld hl ?_ | (refine a_st hl ?_; clear hl; intro _ hl) | refine a_ix (fun _ => ?_) | fail)
      refine o_nil (hK1 _ _ ?_)
      clear hK1 K1
      refine wk_reg ?_
      repeat' (first | refine a_mov ?_ | refine a_asg ?_ | refine a_binN ?_ | refine a_notd ?_ | refine a_notb ?_ | refine a_nilc ?_ | refine a_fa ?_ | refine a_ext ?_ | refine a_lenv ?_ | refine a_lens ?_ | refine a_pick_t ?_ | refine a_pick_f ?_ | refine a_not ?_ | refine a_nilf ?_ | (refine a_bin ?_ ?_ <;> intro _ <;> try (exfalso; omega)) | refine a_ld hl ?_ | (refine a_st hl ?_; clear hl; intro _ hl) | refine a_ix (fun _ => ?_) | fail)
      refine o_nil ⟨(j + 1, ps ++ [(kid, kv1)], .slice va (j + 1) vc, acc'), ⟨rfl, rfl, rfl, rfl, rfl, rfl, by simp only [hA2]; rfl, by simp only [hS2]; rfl, rfl, by simp only [← hz2]; rfl, trivial⟩, rfl, ⟨⟨hj1, ?_, fun p hp => ?_⟩, hl, ?_⟩, hfin⟩
      · simp only
        rw [List.map_append, hmap, htake]
        rfl
      · rcases List.mem_append.1 hp with hp | hp
        · exact hps p hp
        · rw [List.mem_singleton.1 hp]; exact hk1
      · simp only
        rw [List.flatMap_append]
        simpa [kidS] using hacc'
  · obtain rfl : j = s.kids.length := by omega
    have hfull : s.kids.reverse.take s.kids.length = s.kids.reverse := List.take_of_length_le (by rw [List.length_reverse]; exact Nat.le_refl _)
    rw [hfull] at hmap
    simp only [hfull, List.all_reverse, List.any_reverse]
    obtain ⟨va, vc, rfl⟩ := hacc.shape
    have hkb : KA w7 s.kids.reverse (.slice va s.kids.length vc) := KR.of_accS (l := [(b14, _), (b5, _)]) hl hacc hmap (fun b hb => hl.idlt (List.mem_cons_of_mem _ (List.mem_cons_of_mem _ hb))) (fun p hp => (KA.ext (hps p hp) hl.done))
    have hfb := fit_back hfit
    have hr14 : Row w7 b14 0 (snL (.node s.op [] 0 s.kids.reverse) (.slice va s.kids.length vc)) := by
      have := hl.rowL (vs := [.int .i64 s.op, .string ⟨#[]⟩, .int .i64 0, .slice va s.kids.length vc]) 0 0 4 rfl
      simp only [snL, Sn.op, Sn.name, Sn.day, str_nil]
      exact this
    have hr5 : Row w7 b5 0 (snL s (.slice ka s.kids.length kc)) := hl.rowL (vs := snL s (.slice ka s.kids.length kc)) 1 0 4 rfl
    have hx7 := hl.done
    clear hl hacc hps hmap
    repeat' (first | refine a_mov ?_ | refine a_asg ?_ | refine a_binN ?_ | refine a_notd ?_ | refine a_notb ?_ | refine a_nilc ?_ | refine a_fa ?_ | refine a_ext ?_ | refine a_lenv ?_ | refine a_lens ?_ | refine a_pick_t ?_ | refine a_pick_f ?_ | refine a_not ?_ | refine a_nilf ?_ | (refine a_bin ?_ ?_ <;> intro _ <;> try (exfalso; omega)) | refine a_ld hl ?_ | (refine a_st hl ?_; clear hl; intro _ hl) | refine a_ix (fun _ => ?_) | fail)
    refine o_nil (hK2 _ _ ?_)
    clear hK2 K2
    refine wk_cond_f rfl ?_
    refine wk_exit ?_
    refine blockK_same ?_
    refine hK _ _ ?_
    clear hK1 K1
    clear hK K
    refine wk_seq fun K hK => ?_
    refine wk_reg ?_
    refine a_all hr5 ?_
    refine a_mov ?_
    refine a_mov ?_
    refine a_mov ?_
    refine a_mov ?_
    refine a_fn (holds_calls (E := E) (hk.ext hx7) hfit (hH.1.ext hx7) (hL.1.ext hx7) (by omega) (by omega)) ?_
    rintro _ w8 ⟨rfl, hx8⟩
    refine a_asg ?_
    refine o_nil (hK _ _ ?_)
    clear hK K
    refine wk_seq fun K hK => ?_
    refine wk_seq fun K2 hK2 => ?_
    refine wk_reg ?_
    have hr58 := hr5.ext hx8
    refine o_cut [] (fun _ : Unit => [(1, .int .i64 E.day), (2, .slice ha E.h.length hc), (3, .int .i64 E.known), (4, .slice la E.l.length lc), (11, .bool true), (14, .pointer (some ⟨b14, 0, none⟩)), (17, .bool (holds E s)), (102, .bool false)]) (fun _ w' => w' = w8) ?_ ?_
    · rcases hop with h | h
      · rw [← hall h]
        generalize holds E s = B
        cases B <;> (repeat' (first | (rename_i h_; exact absurd h h_) | refine a_mov ?_ | refine a_asg ?_ | refine a_binN ?_ | refine a_notd ?_ | refine a_notb ?_ | refine a_nilc ?_ | refine a_fa ?_ | refine a_ext ?_ | refine a_lenv ?_ | refine a_lens ?_ | refine a_pick_t ?_ | refine a_pick_f ?_ | refine a_not ?_ | refine a_nilf ?_ | (refine a_bin ?_ ?_ <;> intro _ <;> try (exfalso; omega)) | refine a_ld hl ?_ | (refine a_st hl ?_; clear hl; intro _ hl) | refine a_ix (fun _ => ?_) | refine a_row hr58 ?_ | refine o_neB rfl rfl rfl rfl ?_ | fail)) <;> exact o_nil ⟨(), ⟨rfl, rfl, rfl, rfl, rfl, rfl, rfl, rfl, trivial⟩, rfl, rfl⟩
      · rw [← hany h]
        generalize holds E s = B
        cases B <;> (repeat' (first | refine a_mov ?_ | refine a_asg ?_ | refine a_binN ?_ | refine a_notd ?_ | refine a_notb ?_ | refine a_nilc ?_ | refine a_fa ?_ | refine a_ext ?_ | refine a_lenv ?_ | refine a_lens ?_ | refine a_pick_t ?_ | refine a_pick_f ?_ | refine a_not ?_ | refine a_nilf ?_ | (refine a_bin ?_ ?_ <;> intro _ <;> try (exfalso; omega)) | refine a_ld hl ?_ | (refine a_st hl ?_; clear hl; intro _ hl) | refine a_ix (fun _ => ?_) | refine a_row hr58 ?_ | refine o_neB rfl rfl rfl rfl ?_ | fail)) <;> exact o_nil ⟨(), ⟨rfl, rfl, rfl, rfl, rfl, rfl, rfl, rfl, trivial⟩, rfl, rfl⟩
    rintro _ t w8' rfl
    refine hK2 _ _ ?_
    clear hK2 K2
    refine wk_cond_f rfl ?_
    refine wk_skip (hK _ _ ?_)
    clear hK K
    refine wk_seq fun K hK => ?_
    refine wk_reg ?_
    repeat' (first | refine a_mov ?_ | refine a_asg ?_ | refine a_binN ?_ | refine a_notd ?_ | refine a_notb ?_ | refine a_nilc ?_ | refine a_fa ?_ | refine a_ext ?_ | refine a_lenv ?_ | refine a_lens ?_ | refine a_pick_t ?_ | refine a_pick_f ?_ | refine a_not ?_ | refine a_nilf ?_ | (refine a_bin ?_ ?_ <;> intro _ <;> try (exfalso; omega)) | refine a_ld hl ?_ | (refine a_st hl ?_; clear hl; intro _ hl) | refine a_ix (fun _ => ?_) | fail)
    refine a_all (hr14.ext hx8) ?_
    repeat' (first | refine a_mov ?_ | refine a_asg ?_ | refine a_binN ?_ | refine a_notd ?_ | refine a_notb ?_ | refine a_nilc ?_ | refine a_fa ?_ | refine a_ext ?_ | refine a_lenv ?_ | refine a_lens ?_ | refine a_pick_t ?_ | refine a_pick_f ?_ | refine a_not ?_ | refine a_nilf ?_ | (refine a_bin ?_ ?_ <;> intro _ <;> try (exfalso; omega)) | refine a_ld hl ?_ | (refine a_st hl ?_; clear hl; intro _ hl) | refine a_ix (fun _ => ?_) | fail)
    refine a_fn (holds_calls (s := .node s.op [] 0 s.kids.reverse) (E := E) (hkb.ext hx8) hfb ((hH.1.ext hx7).ext hx8) ((hL.1.ext hx7).ext hx8) (by omega) (by omega)) ?_
    rintro _ w9 ⟨rfl, hx9⟩
    rw [hback]
    refine a_mov ?_
    refine o_eqB rfl rfl rfl rfl ?_
    rw [show (holds E s == holds E s) = true by simp]
    repeat' (first | refine a_mov ?_ | refine a_asg ?_ | refine a_binN ?_ | refine a_notd ?_ | refine a_notb ?_ | refine a_nilc ?_ | refine a_fa ?_ | refine a_ext ?_ | refine a_lenv ?_ | refine a_lens ?_ | refine a_pick_t ?_ | refine a_pick_f ?_ | refine a_not ?_ | refine a_nilf ?_ | (refine a_bin ?_ ?_ <;> intro _ <;> try (exfalso; omega)) | refine a_ld hl ?_ | (refine a_st hl ?_; clear hl; intro _ hl) | refine a_ix (fun _ => ?_) | fail)
    refine o_nil (hK _ _ ?_)
    clear hK K
    refine wk_ret (retQ_tmp1 Tryz.results6 (by decide) rfl (by conv => lhs; whnf) ?_)
    exact ⟨rfl, (hx7.trans hx8).trans hx9⟩
end Go.Proofs
