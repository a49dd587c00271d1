/-
  The reference's reader: one condition.
-/
import Derived.Test.YtebaoilkpedppaaGreatDoorQStRc
import Derived.Test.YtebaoilkpedppaaGreatDoorQO
set_option linter.unusedVariables false
set_option linter.unusedSimpArgs false
set_option linter.unnecessarySimpa false
set_option maxRecDepth 10000
namespace Go.Sta
open Go.Lexs (Tok)
def kAlw : Tx := [97, 108, 119, 97, 121, 115]
def kNev : Tx := [110, 101, 118, 101, 114]
def kDay : Tx := [100, 97, 121]
def nmW : List Tx := [[111, 114, 100, 101, 114], [101, 118, 101, 110, 116], [98, 101, 103, 117, 110], [111, 118, 101, 114]]
theorem isT_excl {a b : Tx} {ts : List Tok} (h : isT a ts = true) (hn : a ≠ b) : isT b ts = false := by
  rw [Bool.eq_false_iff]
  intro h2
  obtain ⟨t, r, rfl, e1⟩ := isT_text h
  obtain ⟨t2, r2, e0, e2⟩ := isT_text h2
  cases e0
  exact hn (e1.symm.trans e2)
theorem isT_lt {a : Tx} {ts : List Tok} {i : Nat} (h : isT a (ts.drop i) = true) : i < ts.length := by
  obtain ⟨t0, r0, h1⟩ := isT_ne h
  have := congrArg List.length h1
  simp at this
  omega
theorem failE_ne (ts : List Tok) : failE ts ≠ 0 := by cases ts <;> simp [failE]
theorem nmW_at : ∀ (k : Nat) (hk : k < nmW.length), (nmW[k], 4 + (k : Int)) ∈ wordL ∧ nmW[k] ≠ kOpen
  | 0, h => ⟨by revert h; decide, by revert h; decide⟩
  | 1, h => ⟨by revert h; decide, by revert h; decide⟩
  | 2, h => ⟨by revert h; decide, by revert h; decide⟩
  | 3, h => ⟨by revert h; decide, by revert h; decide⟩
  | k + 4, h => by simp [nmW] at h; omega
theorem noneW {ts : List Tok} (h1 : isT kAlw ts = false) (h2 : isT kNev ts = false) (h3 : isT kDay ts = false) (h4 : ∀ (q : Nat) (hq : q < nmW.length), isT nmW[q] ts = false) : ∀ p ∈ wordL, isT p.1 ts = false := by
  intro p hp
  have e0 := h4 0 (by decide)
  have e1 := h4 1 (by decide)
  have e2 := h4 2 (by decide)
  have e3 := h4 3 (by decide)
  simp only [wordL, List.mem_cons, List.not_mem_nil, or_false] at hp
  rcases hp with rfl | rfl | rfl | rfl | rfl | rfl | rfl
  · exact h1
  · exact h2
  · exact h3
  · exact e0
  · exact e1
  · exact e2
  · exact e3
end Go.Sta
namespace Go.Proofs
open Go Go.Pd Go.Sta
open Go.Lexs (Tok)
attribute [local irreducible] OpsL W RetQ OpsQ OpsC
theorem isR0_calls {w : World} {rb i : Nat} {tv : Value} {ts : List Tok} {en : Int} {wd : Tx} (hT : TK w rb tv ts) (hl : LH w (OneB rb) w [rsB rb tv i en 0 0]) (hi : i ≤ ts.length) :
    Calls Tryz.prog 73 #[.pointer (some ⟨rb, 0, none⟩), str wd] w (fun e w' => ∃ v, e = .returned v ∧ v = .bool (isT wd (ts.drop i)) ∧ LH w (OneB rb) w' [rsB rb tv (if isT wd (ts.drop i) then i + 1 else i : Nat) en 0 0]) := by
  have := isR_calls (wd := wd) hT hl hi
  simpa using this
set_option maxHeartbeats 8000000 in
theorem oneR_calls {en : Int} : ∀ n, RfC 98 en n (pOne en (n + 1)) := by
  intro n
  induction n using Nat.strongRecOn with
  | _ n ih =>
  intro w rb tv ts i hT hl hi hn
  have hlen := hT.2.2
  refine calls_of Tryz.func98 rfl Tryz.ntmps98 rfl ?_
  refine wk_seq fun K hK => ?_
  refine wk_reg ?_
  refine o_alloc hl [.int .i64 0, .string "".toByteArray, .int .i64 0, .slice none 0 0] (by kernel_rfl) rfl ?_
  clear hl
  intro b2 w1 hb2 hl
  replace hl := hl.perm (List.Perm.swap _ _ [])
  refine o_nil (hK _ _ ?_)
  clear hK K
  refine wk_seq fun K hK => ?_
  refine wk_seq fun K2 hK2 => ?_
  refine wk_reg ?_
  refine a_mov ?_
  refine a_fn (isR0_calls (wd := kAlw) (hT.upd hl.upd) hl.one hi) ?_ rfl (fun _ => rfl) (by simp only [kAlw, str_eq]; rfl)
  rintro _ w2 ⟨rfl, hl2⟩
  replace hl := hl.swap hl2
  clear hl2
  refine o_nil (hK2 _ _ ?_)
  clear hK2 K2
  cases hb1 : isT kAlw (ts.drop i)
  rotate_left
  · skip
    rw [hb1, if_pos rfl] at hl
    have hlt := isT_lt hb1
    refine wk_cond_t rfl ?_
    refine wk_seq fun K2 hK2 => ?_
    refine wk_reg ?_
    refine o_build [.int .i64 1, .string ⟨#[]⟩, .int .i64 0, .slice none 0 0] rfl rfl ?_
    refine o_putN (us := [.int .i64 1, .string ⟨#[]⟩, .int .i64 0, .slice none 0 0]) hl rfl rfl rfl rfl rfl (.there (.here rfl rfl)) ?_
    clear hl
    intro w9 hl
    refine o_nil (hK2 _ _ ?_)
    refine wk_ret (retQ_res [.agg (snL (.node 1 [] 0 []) (.slice none 0 0)).toArray] rfl rfl ⟨by decide, ⟨⟨b2, 0, none⟩, rfl, run_loadVarN rfl rfl (hl.rowL (vs := snL (.node 1 [] 0 []) (.slice none 0 0)) 1 0 4 (by simp only [snL, Sn.op, Sn.name, Sn.day, str_nil]; rfl))⟩, trivial⟩ ?_)
    refine ⟨_, _, i + 1, 0, 0, rfl, by omega, hlt, hl.sub (List.cons_sublist_cons.2 (List.nil_sublist _)), KR.nil _ _, .inl ⟨rfl, rfl, ?_⟩⟩
    rw [pOne_word (isT_excl hb1 (by decide)) (p := (kAlw, 1)) (by decide) hb1, drop_tail]
    rfl
  rw [hb1, if_neg (by decide)] at hl
  refine wk_cond_f rfl ?_
  refine wk_skip (hK _ _ ?_)
  clear hK K
  refine wk_seq fun K hK => ?_
  refine wk_seq fun K2 hK2 => ?_
  refine wk_reg ?_
  refine a_mov ?_
  refine a_fn (isR0_calls (wd := kNev) (hT.upd hl.upd) hl.one hi) ?_ rfl (fun _ => rfl) (by simp only [kNev, str_eq]; rfl)
  rintro _ w3 ⟨rfl, hl2⟩
  replace hl := hl.swap hl2
  clear hl2
  refine o_nil (hK2 _ _ ?_)
  clear hK2 K2
  cases hb2 : isT kNev (ts.drop i)
  rotate_left
  · skip
    rw [hb2, if_pos rfl] at hl
    have hlt := isT_lt hb2
    refine wk_cond_t rfl ?_
    refine wk_seq fun K2 hK2 => ?_
    refine wk_reg ?_
    refine o_build [.int .i64 2, .string ⟨#[]⟩, .int .i64 0, .slice none 0 0] rfl rfl ?_
    refine o_putN (us := [.int .i64 2, .string ⟨#[]⟩, .int .i64 0, .slice none 0 0]) hl rfl rfl rfl rfl rfl (.there (.here rfl rfl)) ?_
    clear hl
    intro w9 hl
    refine o_nil (hK2 _ _ ?_)
    refine wk_ret (retQ_res [.agg (snL (.node 2 [] 0 []) (.slice none 0 0)).toArray] rfl rfl ⟨by decide, ⟨⟨b2, 0, none⟩, rfl, run_loadVarN rfl rfl (hl.rowL (vs := snL (.node 2 [] 0 []) (.slice none 0 0)) 1 0 4 (by simp only [snL, Sn.op, Sn.name, Sn.day, str_nil]; rfl))⟩, trivial⟩ ?_)
    refine ⟨_, _, i + 1, 0, 0, rfl, by omega, hlt, hl.sub (List.cons_sublist_cons.2 (List.nil_sublist _)), KR.nil _ _, .inl ⟨rfl, rfl, ?_⟩⟩
    rw [pOne_word (isT_excl hb2 (by decide)) (p := (kNev, 2)) (by decide) hb2, drop_tail]
    rfl
  rw [hb2, if_neg (by decide)] at hl
  refine wk_cond_f rfl ?_
  refine wk_skip (hK _ _ ?_)
  clear hK K
  refine wk_seq fun K hK => ?_
  refine wk_seq fun K2 hK2 => ?_
  refine wk_reg ?_
  refine a_mov ?_
  refine a_fn (isR0_calls (wd := kDay) (hT.upd hl.upd) hl.one hi) ?_ rfl (fun _ => rfl) (by simp only [kDay, str_eq]; rfl)
  rintro _ w4 ⟨rfl, hl2⟩
  replace hl := hl.swap hl2
  clear hl2
  refine o_nil (hK2 _ _ ?_)
  clear hK2 K2
  cases hb3 : isT kDay (ts.drop i)
  rotate_left
  · rw [hb3, if_pos rfl] at hl
    have hlt := isT_lt hb3
    have hp1 : pOne en (n + 1) (ts.drop i) = wordR en 3 (ts.drop (i + 1)) := by
      rw [pOne_word (isT_excl hb3 (by decide)) (p := (kDay, 3)) (by decide) hb3, drop_tail]
    refine wk_cond_t rfl ?_
    refine wk_seq fun K2 hK2 => ?_
    refine wk_reg ?_
    refine a_mov ?_
    refine a_fn (takeR_calls (k := 2) (hT.upd hl.upd) hl.one hlt) ?_
    rintro _ w5 (⟨hlt1, hk2, rfl, hl5⟩ | ⟨hno, rfl, hl5⟩)
    · replace hl := hl.swap hl5
      clear hl5
      have htk := takeT_ok (en := en) hlt1 hk2
      refine o_alloc hl [.int .i64 0, .string "".toByteArray, .int .i64 0, .int .i64 0] (by kernel_rfl) rfl ?_
      clear hl
      intro b3 w6 hb3 hl
      refine o_putN (us := tokL ts[i + 1]) hl rfl rfl rfl (by simp only [tokL, List.all_cons, List.all_nil, oneCell_str]; rfl) rfl (.here rfl rfl) ?_
      clear hl
      intro w7 hl
      replace hl := hl.perm (List.Perm.swap _ _ _)
      have hrt : Row w7 b3 0 (tokL ts[i + 1]) := hl.rowL (vs := tokL ts[i + 1]) 1 0 4 rfl
      refine o_nil (hK2 _ _ ?_)
      clear hK2 K2
      refine wk_seq fun K2 hK2 => ?_
      by_cases hbig : 1000000 < ts[i + 1].num
      · refine wk_seq fun K3 hK3 => ?_
        refine wk_reg ?_
        repeat' (first | refine a_mov ?_ | refine a_asg ?_ | refine a_binN ?_ | refine a_notd ?_ | refine a_notb ?_ | refine a_nilc ?_ | refine a_fa ?_ | refine a_ext ?_ | refine a_lenv ?_ | refine a_lens ?_ | refine a_pick_t ?_ | refine a_pick_f ?_ | refine a_not ?_ | refine a_nilf ?_ | (refine a_bin ?_ ?_ <;> intro _ <;> try (exfalso; omega)) | refine a_ld hl ?_ | (refine a_st hl ?_; clear hl; intro _ hl) | refine a_ix (fun _ => ?_) | refine a_row hrt ?_ | fail)
        refine o_nil (hK3 _ _ ?_)
        clear hK3 K3
        refine wk_cond_t rfl ?_
        refine wk_reg ?_
        repeat' (first | refine a_mov ?_ | refine a_asg ?_ | refine a_binN ?_ | refine a_notd ?_ | refine a_notb ?_ | refine a_nilc ?_ | refine a_fa ?_ | refine a_ext ?_ | refine a_lenv ?_ | refine a_lens ?_ | refine a_pick_t ?_ | refine a_pick_f ?_ | refine a_not ?_ | refine a_nilf ?_ | (refine a_bin ?_ ?_ <;> intro _ <;> try (exfalso; omega)) | refine a_ld hl ?_ | (refine a_st hl ?_; clear hl; intro _ hl) | refine a_ix (fun _ => ?_) | refine a_row hrt ?_ | fail)
        refine a_fn (fault_calls hl.one) ?_
        rintro v w8 hl8
        replace hl := hl.swap hl8
        clear hl8
        rw [if_pos rfl, if_pos rfl] at hl
        replace hrt : Row w8 b3 0 (tokL ts[i + 1]) := hl.rowL (vs := tokL ts[i + 1]) 1 0 4 rfl
        refine o_nil (hK2 _ _ ?_)
        clear hK2 K2
        refine wk_seq fun K2 hK2 => ?_
        refine wk_reg ?_
        repeat' (first | refine a_mov ?_ | refine a_asg ?_ | refine a_binN ?_ | refine a_notd ?_ | refine a_notb ?_ | refine a_nilc ?_ | refine a_fa ?_ | refine a_ext ?_ | refine a_lenv ?_ | refine a_lens ?_ | refine a_pick_t ?_ | refine a_pick_f ?_ | refine a_not ?_ | refine a_nilf ?_ | (refine a_bin ?_ ?_ <;> intro _ <;> try (exfalso; omega)) | refine a_ld hl ?_ | (refine a_st hl ?_; clear hl; intro _ hl) | refine a_ix (fun _ => ?_) | refine a_row hrt ?_ | fail)
        refine o_build [.int .i64 3, .string ⟨#[]⟩, .int .i64 (ts[i + 1].num : Int), .slice none 0 0] rfl rfl ?_
        refine o_putN (us := [.int .i64 3, .string ⟨#[]⟩, .int .i64 (ts[i + 1].num : Int), .slice none 0 0]) hl rfl rfl rfl rfl rfl (.there (.there (.here rfl rfl))) ?_
        clear hl
        intro w9 hl
        refine o_nil (hK2 _ _ ?_)
        refine wk_ret (retQ_res [.agg (snL (.node 3 [] (ts[i + 1].num : Int) []) (.slice none 0 0)).toArray] rfl rfl ⟨by decide, ⟨⟨b2, 0, none⟩, rfl, run_loadVarN rfl rfl (hl.rowL (vs := snL (.node 3 [] (ts[i + 1].num : Int) []) (.slice none 0 0)) 2 0 4 (by simp only [snL, Sn.op, Sn.name, Sn.day, str_nil]; rfl))⟩, trivial⟩ ?_)
        refine ⟨_, _, i + 1 + 1, 10, _, rfl, by omega, hlt1, hl.sub (List.cons_sublist_cons.2 (List.nil_sublist _)), KR.nil _ _, .inr ⟨by decide, ?_⟩⟩
        rw [hp1]
        unfold wordR
        rw [if_pos rfl, htk]
        simp only
        rw [if_pos hbig]
      · refine wk_seq fun K3 hK3 => ?_
        refine wk_reg ?_
        repeat' (first | refine a_mov ?_ | refine a_asg ?_ | refine a_binN ?_ | refine a_notd ?_ | refine a_notb ?_ | refine a_nilc ?_ | refine a_fa ?_ | refine a_ext ?_ | refine a_lenv ?_ | refine a_lens ?_ | refine a_pick_t ?_ | refine a_pick_f ?_ | refine a_not ?_ | refine a_nilf ?_ | (refine a_bin ?_ ?_ <;> intro _ <;> try (exfalso; omega)) | refine a_ld hl ?_ | (refine a_st hl ?_; clear hl; intro _ hl) | refine a_ix (fun _ => ?_) | refine a_row hrt ?_ | fail)
        refine o_nil (hK3 _ _ ?_)
        clear hK3 K3
        refine wk_cond_f rfl ?_
        refine wk_skip (hK2 _ _ ?_)
        clear hK2 K2
        refine wk_seq fun K2 hK2 => ?_
        refine wk_reg ?_
        repeat' (first | refine a_mov ?_ | refine a_asg ?_ | refine a_binN ?_ | refine a_notd ?_ | refine a_notb ?_ | refine a_nilc ?_ | refine a_fa ?_ | refine a_ext ?_ | refine a_lenv ?_ | refine a_lens ?_ | refine a_pick_t ?_ | refine a_pick_f ?_ | refine a_not ?_ | refine a_nilf ?_ | (refine a_bin ?_ ?_ <;> intro _ <;> try (exfalso; omega)) | refine a_ld hl ?_ | (refine a_st hl ?_; clear hl; intro _ hl) | refine a_ix (fun _ => ?_) | refine a_row hrt ?_ | fail)
        refine o_build [.int .i64 3, .string ⟨#[]⟩, .int .i64 (ts[i + 1].num : Int), .slice none 0 0] rfl rfl ?_
        refine o_putN (us := [.int .i64 3, .string ⟨#[]⟩, .int .i64 (ts[i + 1].num : Int), .slice none 0 0]) hl rfl rfl rfl rfl rfl (.there (.there (.here rfl rfl))) ?_
        clear hl
        intro w9 hl
        refine o_nil (hK2 _ _ ?_)
        refine wk_ret (retQ_res [.agg (snL (.node 3 [] (ts[i + 1].num : Int) []) (.slice none 0 0)).toArray] rfl rfl ⟨by decide, ⟨⟨b2, 0, none⟩, rfl, run_loadVarN rfl rfl (hl.rowL (vs := snL (.node 3 [] (ts[i + 1].num : Int) []) (.slice none 0 0)) 2 0 4 (by simp only [snL, Sn.op, Sn.name, Sn.day, str_nil]; rfl))⟩, trivial⟩ ?_)
        refine ⟨_, _, i + 1 + 1, 0, 0, rfl, by omega, hlt1, hl.sub (List.cons_sublist_cons.2 (List.nil_sublist _)), KR.nil _ _, .inl ⟨rfl, rfl, ?_⟩⟩
        rw [hp1]
        unfold wordR
        rw [if_pos rfl, htk]
        simp only
        rw [if_neg hbig]
    · replace hl := hl.swap hl5
      clear hl5
      have htk := takeT_bad (en := en) hno
      refine o_alloc hl [.int .i64 0, .string "".toByteArray, .int .i64 0, .int .i64 0] (by kernel_rfl) rfl ?_
      clear hl
      intro b3 w6 hb3 hl
      refine o_putN (us := tok0) hl rfl rfl rfl rfl rfl (.here rfl rfl) ?_
      clear hl
      intro w7 hl
      replace hl := hl.perm (List.Perm.swap _ _ _)
      have hrt : Row w7 b3 0 [.int .i64 0, .string ⟨#[]⟩, .int .i64 0, .int .i64 0] := hl.rowL (vs := tok0) 1 0 4 rfl
      refine o_nil (hK2 _ _ ?_)
      clear hK2 K2
      refine wk_seq fun K2 hK2 => ?_
      refine wk_seq fun K3 hK3 => ?_
      refine wk_reg ?_
      repeat' (first | refine a_mov ?_ | refine a_asg ?_ | refine a_binN ?_ | refine a_notd ?_ | refine a_notb ?_ | refine a_nilc ?_ | refine a_fa ?_ | refine a_ext ?_ | refine a_lenv ?_ | refine a_lens ?_ | refine a_pick_t ?_ | refine a_pick_f ?_ | refine a_not ?_ | refine a_nilf ?_ | (refine a_bin ?_ ?_ <;> intro _ <;> try (exfalso; omega)) | refine a_ld hl ?_ | (refine a_st hl ?_; clear hl; intro _ hl) | refine a_ix (fun _ => ?_) | refine a_row hrt ?_ | fail)
      refine o_nil (hK3 _ _ ?_)
      clear hK3 K3
      refine wk_cond_f rfl ?_
      refine wk_skip (hK2 _ _ ?_)
      clear hK2 K2
      refine wk_seq fun K2 hK2 => ?_
      refine wk_reg ?_
      repeat' (first | refine a_mov ?_ | refine a_asg ?_ | refine a_binN ?_ | refine a_notd ?_ | refine a_notb ?_ | refine a_nilc ?_ | refine a_fa ?_ | refine a_ext ?_ | refine a_lenv ?_ | refine a_lens ?_ | refine a_pick_t ?_ | refine a_pick_f ?_ | refine a_not ?_ | refine a_nilf ?_ | (refine a_bin ?_ ?_ <;> intro _ <;> try (exfalso; omega)) | refine a_ld hl ?_ | (refine a_st hl ?_; clear hl; intro _ hl) | refine a_ix (fun _ => ?_) | refine a_row hrt ?_ | fail)
      refine o_build [.int .i64 3, .string ⟨#[]⟩, .int .i64 0, .slice none 0 0] rfl rfl ?_
      refine o_putN (us := [.int .i64 3, .string ⟨#[]⟩, .int .i64 0, .slice none 0 0]) hl rfl rfl rfl rfl rfl (.there (.there (.here rfl rfl))) ?_
      clear hl
      intro w9 hl
      refine o_nil (hK2 _ _ ?_)
      refine wk_ret (retQ_res [.agg (snL (.node 3 [] 0 []) (.slice none 0 0)).toArray] rfl rfl ⟨by decide, ⟨⟨b2, 0, none⟩, rfl, run_loadVarN rfl rfl (hl.rowL (vs := snL (.node 3 [] 0 []) (.slice none 0 0)) 2 0 4 (by simp only [snL, Sn.op, Sn.name, Sn.day, str_nil]; rfl))⟩, trivial⟩ ?_)
      refine ⟨_, _, i + 1, _, _, rfl, by omega, hlt, hl.sub (List.cons_sublist_cons.2 (List.nil_sublist _)), KR.nil _ _, .inr ⟨failE_ne _, ?_⟩⟩
      rw [hp1]
      unfold wordR
      rw [if_pos rfl, htk]
      rfl
  rw [hb3, if_neg (by decide)] at hl
  refine wk_cond_f rfl ?_
  refine wk_skip (hK _ _ ?_)
  clear hK K
  refine wk_seq fun K hK => ?_
  refine wk_reg ?_
  refine o_buildSlice hl (nmW.map str) rfl rfl (by simp only [nmW, List.map_cons, List.map_nil, str_eq]; kernel_rfl) ?_
  clear hl
  intro bw w5 hbw hl
  replace hl := hl.perm (List.perm_append_comm (l₁ := [_]))
  have hrw : Row w5 bw 0 (nmW.map str) := hl.rowL (vs := nmW.map str) 2 0 4 rfl
  refine a_asg ?_
  refine o_nil (hK _ _ ?_)
  clear hK K hrw
  refine wk_seq fun K hK => ?_
  refine wk_seq fun K2 hK2 => ?_
  refine wk_reg ?_
  refine a_asg ?_
  refine o_nil (hK2 _ _ ?_)
  clear hK2 K2
  refine wk_block ?_
  refine wk_loopH [] rfl (fun k : Nat => [(0, .pointer (some ⟨rb, 0, none⟩)), (2, .pointer (some ⟨b2, 0, none⟩)), (4, .slice (some ⟨bw, 0, none⟩) 4 4), (5, .int .i64 (k : Int))]) (fun k w' => (k ≤ 4 ∧ ∀ q (hq : q < nmW.length), q < k → isT nmW[q] (ts.drop i) = false) ∧ LH w (OneB rb) w' [rsB rb tv i en 0 0, (b2, Obj.cells #[.int .i64 0, .string "".toByteArray, .int .i64 0, .slice none 0 0] 24 (0, 0)), (bw, .cells (nmW.map str).toArray 9 (0, 0))]) (fun k => 4 - k) 0 ⟨rfl, rfl, rfl, rfl, trivial⟩ ⟨⟨by omega, fun q _ h => absurd h (by omega)⟩, hl⟩ ?_
  clear hl
  rintro k t w6 ⟨⟨hk, hnone⟩, hl⟩
  refine wk_seq fun K1 hK1 => ?_
  refine wk_seq fun K2 hK2 => ?_
  refine wk_reg ?_
  by_cases hk1 : k < 4
  · have hk' : k < nmW.length := hk1
    have hrw : Row w6 bw 0 (nmW.map str) := hl.rowL (vs := nmW.map str) 2 0 4 rfl
    have hcell : Row w6 bw (0 + k * 1) [str nmW[k]] := fun j v hj => by
      cases j with
      | zero =>
        have := hrw k (str nmW[k]) (by simp [hk'])
        simp at hj
        rw [← hj]
        simpa using this
      | succ j => simp at hj
    repeat' (first | refine a_mov ?_ | refine a_asg ?_ | refine a_binN ?_ | refine a_notd ?_ | refine a_notb ?_ | refine a_nilc ?_ | refine a_fa ?_ | refine a_ext ?_ | refine a_lenv ?_ | refine a_lens ?_ | refine a_pick_t ?_ | refine a_pick_f ?_ | refine a_not ?_ | refine a_nilf ?_ | (refine a_bin ?_ ?_ <;> intro _ <;> try (exfalso; omega)) | refine a_ld hl ?_ | (refine a_st hl ?_; clear hl; intro _ hl) | refine a_ix (fun _ => ?_) | fail)
    refine o_nil (hK2 _ _ ?_)
    clear hK2 K2
    refine wk_cond_t rfl ?_
    refine wk_skip (hK1 _ _ ?_)
    clear hK1 K1
    refine wk_seq fun K1 hK1 => ?_
    refine wk_block ?_
    refine wk_seq fun K2 hK2 => ?_
    refine wk_reg ?_
    repeat' (first | refine a_mov ?_ | refine a_asg ?_ | refine a_binN ?_ | refine a_notd ?_ | refine a_notb ?_ | refine a_nilc ?_ | refine a_fa ?_ | refine a_ext ?_ | refine a_lenv ?_ | refine a_lens ?_ | refine a_pick_t ?_ | refine a_pick_f ?_ | refine a_not ?_ | refine a_nilf ?_ | (refine a_bin ?_ ?_ <;> intro _ <;> try (exfalso; omega)) | refine a_ld hl ?_ | (refine a_st hl ?_; clear hl; intro _ hl) | refine a_ix (fun _ => ?_) | refine a_idx (c := 1) k rfl ?_ | refine a_row hcell ?_ | fail)
    refine a_fn (isR0_calls (wd := nmW[k]) (hT.upd hl.upd) hl.one hi) ?_
    rintro _ w7 ⟨rfl, hl2⟩
    replace hl := hl.swap hl2
    clear hl2
    refine o_nil (hK2 _ _ ?_)
    clear hK2 K2 hrw hcell
    cases hb : isT nmW[k] (ts.drop i)
    · rw [hb, if_neg (by decide)] at hl
      refine wk_cond_f rfl ?_
      refine wk_skip (hK1 _ _ ?_)
      clear hK1 K1
      refine wk_reg ?_
      repeat' (first | refine a_mov ?_ | refine a_asg ?_ | refine a_binN ?_ | refine a_notd ?_ | refine a_notb ?_ | refine a_nilc ?_ | refine a_fa ?_ | refine a_ext ?_ | refine a_lenv ?_ | refine a_lens ?_ | refine a_pick_t ?_ | refine a_pick_f ?_ | refine a_not ?_ | refine a_nilf ?_ | (refine a_bin ?_ ?_ <;> intro _ <;> try (exfalso; omega)) | refine a_ld hl ?_ | (refine a_st hl ?_; clear hl; intro _ hl) | refine a_ix (fun _ => ?_) | fail)
      refine o_nil ⟨k + 1, ⟨rfl, rfl, rfl, rfl, trivial⟩, rfl, ⟨⟨hk1, fun q hq h => ?_⟩, hl⟩, by omega⟩
      by_cases hqk : q = k
      · subst hqk; exact hb
      · exact hnone q hq (by omega)
    · rw [hb, if_pos rfl] at hl
      have hlt := isT_lt hb
      obtain ⟨hmem, hne⟩ := nmW_at k hk'
      have hp1 : pOne en (n + 1) (ts.drop i) = wordR en (4 + (k : Int)) (ts.drop (i + 1)) := by
        rw [pOne_word (isT_excl hb hne) (p := (nmW[k], 4 + (k : Int))) hmem hb, drop_tail]
      have h3 : ¬ (4 + (k : Int) = 3) := by omega
      have hnm : named (4 + (k : Int)) = true := by
        unfold named
        rw [decide_eq_true_eq]
        omega
      refine wk_cond_t rfl ?_
      refine wk_seq fun K2 hK2 => ?_
      refine wk_reg ?_
      repeat' (first | refine a_mov ?_ | refine a_asg ?_ | refine a_binN ?_ | refine a_notd ?_ | refine a_notb ?_ | refine a_nilc ?_ | refine a_fa ?_ | refine a_ext ?_ | refine a_lenv ?_ | refine a_lens ?_ | refine a_pick_t ?_ | refine a_pick_f ?_ | refine a_not ?_ | refine a_nilf ?_ | (refine a_bin ?_ ?_ <;> intro _ <;> try (exfalso; omega)) | refine a_ld hl ?_ | (refine a_st hl ?_; clear hl; intro _ hl) | refine a_ix (fun _ => ?_) | fail)
      refine a_fn (takeR_calls (k := 1) (hT.upd hl.upd) hl.one hlt) ?_
      rintro _ w8 (⟨hlt1, hk2, rfl, hl5⟩ | ⟨hno, rfl, hl5⟩)
      · replace hl := hl.swap hl5
        clear hl5
        have htk := takeT_ok (en := en) hlt1 hk2
        refine a_fld (v := str ts[i + 1].text) (off := 1) ?_ rfl rfl rfl rfl
        refine o_build [.int .i64 (4 + (k : Int)), str ts[i + 1].text, .int .i64 0, .slice none 0 0] rfl (by simp only [str_eq]; kernel_rfl) ?_
        refine o_putN (us := [.int .i64 (4 + (k : Int)), str ts[i + 1].text, .int .i64 0, .slice none 0 0]) hl rfl rfl rfl (by simp only [List.all_cons, List.all_nil, oneCell_str]; rfl) rfl (.there (.here rfl rfl)) ?_
        clear hl
        intro w9 hl
        refine o_nil (hK2 _ _ ?_)
        refine wk_ret (retQ_res [.agg (snL (.node (4 + (k : Int)) ts[i + 1].text 0 []) (.slice none 0 0)).toArray] rfl rfl ⟨by decide, ⟨⟨b2, 0, none⟩, rfl, run_loadVarN rfl rfl (hl.rowL (vs := snL (.node (4 + (k : Int)) ts[i + 1].text 0 []) (.slice none 0 0)) 1 0 4 rfl)⟩, trivial⟩ ?_)
        refine ⟨_, _, i + 1 + 1, 0, 0, rfl, by omega, hlt1, hl.sub (List.cons_sublist_cons.2 (List.nil_sublist _)), KR.nil _ _, .inl ⟨rfl, rfl, ?_⟩⟩
        rw [hp1]
        unfold wordR
        rw [if_neg h3, if_pos hnm, htk]
      · replace hl := hl.swap hl5
        clear hl5
        have htk := takeT_bad (en := en) hno
        refine a_fld (v := .string ⟨#[]⟩) (off := 1) ?_ rfl rfl rfl rfl
        refine o_build [.int .i64 (4 + (k : Int)), .string ⟨#[]⟩, .int .i64 0, .slice none 0 0] rfl rfl ?_
        refine o_putN (us := [.int .i64 (4 + (k : Int)), .string ⟨#[]⟩, .int .i64 0, .slice none 0 0]) hl rfl rfl rfl rfl rfl (.there (.here rfl rfl)) ?_
        clear hl
        intro w9 hl
        refine o_nil (hK2 _ _ ?_)
        refine wk_ret (retQ_res [.agg (snL (.node (4 + (k : Int)) [] 0 []) (.slice none 0 0)).toArray] rfl rfl ⟨by decide, ⟨⟨b2, 0, none⟩, rfl, run_loadVarN rfl rfl (hl.rowL (vs := snL (.node (4 + (k : Int)) [] 0 []) (.slice none 0 0)) 1 0 4 (by simp only [snL, Sn.op, Sn.name, Sn.day, str_nil]; rfl))⟩, trivial⟩ ?_)
        refine ⟨_, _, i + 1, _, _, rfl, by omega, hlt, hl.sub (List.cons_sublist_cons.2 (List.nil_sublist _)), KR.nil _ _, .inr ⟨failE_ne _, ?_⟩⟩
        rw [hp1]
        unfold wordR
        rw [if_neg h3, if_pos hnm, htk]
        rfl
  obtain rfl : k = 4 := by omega
  have hnw : ∀ p ∈ wordL, isT p.1 (ts.drop i) = false := noneW hb1 hb2 hb3 fun q hq => hnone q hq hq
  repeat' (first | refine a_mov ?_ | refine a_asg ?_ | refine a_binN ?_ | refine a_notd ?_ | refine a_notb ?_ | refine a_nilc ?_ | refine a_fa ?_ | refine a_ext ?_ | refine a_lenv ?_ | refine a_lens ?_ | refine a_pick_t ?_ | refine a_pick_f ?_ | refine a_not ?_ | refine a_nilf ?_ | (refine a_bin ?_ ?_ <;> intro _ <;> try (exfalso; omega)) | refine a_ld hl ?_ | (refine a_st hl ?_; clear hl; intro _ hl) | refine a_ix (fun _ => ?_) | fail)
  refine o_nil (hK2 _ _ ?_)
  clear hK2 K2
  refine wk_cond_f rfl ?_
  refine wk_exit ?_
  refine blockK_same ?_
  refine hK _ _ ?_
  clear hK1 K1
  clear hK K
  refine wk_seq fun K hK => ?_
  refine wk_seq fun K2 hK2 => ?_
  refine wk_reg ?_
  refine a_mov ?_
  refine a_fn (isR0_calls (wd := kOpen) (hT.upd hl.upd) hl.one hi) ?_ rfl (fun _ => rfl) (by simp only [kOpen, str_eq]; rfl)
  rintro _ w7 ⟨rfl, hl2⟩
  replace hl := hl.swap hl2
  clear hl2
  refine o_nil (hK2 _ _ ?_)
  clear hK2 K2
  cases hb4 : isT kOpen (ts.drop i)
  rotate_left
  · rw [hb4, if_pos rfl] at hl
    have hlt := isT_lt hb4
    obtain ⟨m, rfl⟩ : ∃ m, n = m + 1 := ⟨n - 1, by omega⟩
    have hst := startR_calls (allR_calls (ih m (by omega)))
    have hp1 := pOne_paren (en := en) (f := m + 1) hb4
    rw [drop_tail] at hp1
    refine wk_cond_t rfl ?_
    refine wk_seq fun K2 hK2 => ?_
    refine wk_reg ?_
    refine a_mov ?_
    refine a_fn (hst w7 rb tv ts (i + 1) (hT.upd hl.upd) hl.one hlt (by omega)) ?_
    rintro _ w8 ⟨s, kv, j, er, at_, rfl, hj, hj2, hl8, hk8, hcase⟩
    have hcase : (er = 0 ∧ at_ = 0 ∧ pStart en (m + 1) (ts.drop (i + 1)) = .ok s (ts.drop j)) ∨ (er ≠ 0 ∧ pStart en (m + 1) (ts.drop (i + 1)) = .bad er at_) := hcase
    have hl0 := hl
    replace hl := hl.swap hl8
    obtain ⟨ka, kc, rfl, -⟩ := hk8.shape
    have hone := snL_one hk8
    have hkr : KR w8 (FrN w w8 [rsB rb tv j en er at_, (b2, Obj.cells #[.int .i64 0, .string "".toByteArray, .int .i64 0, .slice none 0 0] 24 (0, 0)), (bw, .cells (nmW.map str).toArray 9 (0, 0))]) s.kids (.slice ka s.kids.length kc) := KR.newN hl0 hl0.upd.size rfl hk8
    clear hl8 hk8 hl0
    refine o_alloc hl.rb [.int .i64 0, .string "".toByteArray, .int .i64 0, .slice none 0 0] (by kernel_rfl) rfl ?_
    intro b6 w9 hb6 hl9
    replace hl9 := hl9.perm (List.Perm.swap _ _ _)
    replace hkr := KR.grow hl9 hkr
    replace hl := hl.bk hl9
    clear hl9
    refine o_putN (us := snL s (.slice ka s.kids.length kc)) hl.rb rfl rfl rfl hone rfl (.there (.here rfl rfl)) ?_
    intro w10 hl10
    replace hkr := KR.grow hl10 hkr
    replace hl := hl.bk hl10
    clear hl10
    refine o_nil (hK2 _ _ ?_)
    clear hK2 K2
    refine wk_seq fun K2 hK2 => ?_
    refine wk_seq fun K3 hK3 => ?_
    refine wk_reg ?_
    refine a_mov ?_
    refine a_fn (isR_calls (wd := kShut) (hT.upd hl.upd) hl.one hj2) ?_ rfl (fun _ => rfl) (by simp only [kShut, str_eq]; rfl)
    rintro _ w11 ⟨rfl, hl11⟩
    replace hkr := KR.grow (hl.rb.swap hl11) hkr
    replace hl := hl.swap hl11
    clear hl11
    refine a_notb ?_
    refine o_nil (hK3 _ _ ?_)
    clear hK3 K3
    cases hc : (decide (er = 0) && isT kShut (ts.drop j))
    · rw [hc, if_neg (by decide)] at hl hkr
      refine wk_cond_t rfl ?_
      refine wk_reg ?_
      refine a_mov ?_
      refine a_fn (failR_calls (hT.upd hl.upd) hl.one hj2) ?_
      rintro v w12 hl12
      replace hkr := KR.grow (hl.rb.swap hl12) hkr
      replace hl := hl.swap hl12
      clear hl12
      refine o_nil (hK2 _ _ ?_)
      clear hK2 K2
      refine wk_seq fun K2 hK2 => ?_
      refine wk_reg ?_
      refine a_all (hl.rowL (vs := snL s (.slice ka s.kids.length kc)) 1 0 4 rfl) ?_
      refine o_putN (us := snL s (.slice ka s.kids.length kc)) hl.rb rfl rfl rfl hone rfl (.there (.there (.here rfl rfl))) ?_
      intro w13 hl13
      replace hkr := KR.grow hl13 hkr
      replace hl := hl.bk hl13
      clear hl13
      refine o_nil (hK2 _ _ ?_)
      refine wk_ret (retQ_res [.agg (snL s (.slice ka s.kids.length kc)).toArray] rfl rfl ⟨by decide, ⟨⟨b2, 0, none⟩, rfl, run_loadVarN rfl rfl (hl.rowL (vs := snL s (.slice ka s.kids.length kc)) 2 0 4 rfl)⟩, trivial⟩ ?_)
      refine ⟨s, _, j, _, _, rfl, by omega, hj2, hl.sub (List.cons_sublist_cons.2 (List.nil_sublist _)), hkr.mono fun b hb => ⟨hb.1, hb.2.1⟩, .inr ⟨?_, ?_⟩⟩
      · split
        · exact failE_ne _
        · assumption
      · rw [hp1]
        rcases hcase with ⟨rfl, h2, h3⟩ | ⟨h2, h3⟩
        · have hc2 : isT kShut (ts.drop j) = false := by simpa using hc
          rw [h3]
          simp only
          rw [hc2, if_neg (by decide)]
          simp only [if_true]
          rfl
        · rw [h3, if_neg h2, if_neg h2]
    · rw [hc, if_pos rfl] at hl hkr
      rw [Bool.and_eq_true, decide_eq_true_eq] at hc
      obtain ⟨rfl, hc2⟩ := hc
      have hltj := isT_lt hc2
      obtain ⟨rfl, h3⟩ : at_ = 0 ∧ pStart en (m + 1) (ts.drop (i + 1)) = .ok s (ts.drop j) := by
        rcases hcase with ⟨-, h2, h3⟩ | ⟨h2, h3⟩
        · exact ⟨h2, h3⟩
        · exact absurd rfl h2
      refine wk_cond_f rfl ?_
      refine wk_skip (hK2 _ _ ?_)
      clear hK2 K2
      refine wk_seq fun K2 hK2 => ?_
      refine wk_reg ?_
      refine a_all (hl.rowL (vs := snL s (.slice ka s.kids.length kc)) 1 0 4 rfl) ?_
      refine o_putN (us := snL s (.slice ka s.kids.length kc)) hl.rb rfl rfl rfl hone rfl (.there (.there (.here rfl rfl))) ?_
      intro w13 hl13
      replace hkr := KR.grow hl13 hkr
      replace hl := hl.bk hl13
      clear hl13
      refine o_nil (hK2 _ _ ?_)
      refine wk_ret (retQ_res [.agg (snL s (.slice ka s.kids.length kc)).toArray] rfl rfl ⟨by decide, ⟨⟨b2, 0, none⟩, rfl, run_loadVarN rfl rfl (hl.rowL (vs := snL s (.slice ka s.kids.length kc)) 2 0 4 rfl)⟩, trivial⟩ ?_)
      refine ⟨s, _, j + 1, 0, 0, rfl, by omega, hltj, hl.sub (List.cons_sublist_cons.2 (List.nil_sublist _)), hkr.mono fun b hb => ⟨hb.1, hb.2.1⟩, .inl ⟨rfl, rfl, ?_⟩⟩
      rw [hp1, h3]
      simp only
      rw [hc2, if_pos rfl, drop_tail]
  rw [hb4, if_neg (by decide)] at hl
  refine wk_cond_f rfl ?_
  refine wk_skip (hK _ _ ?_)
  clear hK K
  refine wk_seq fun K hK => ?_
  refine wk_reg ?_
  refine a_mov ?_
  refine a_fn (failR_calls (hT.upd hl.upd) hl.one hi) ?_
  rintro v w8 hl8
  replace hl := hl.swap hl8
  clear hl8
  rw [if_pos rfl, if_pos rfl] at hl
  refine o_nil (hK _ _ ?_)
  clear hK K
  refine wk_seq fun K hK => ?_
  refine wk_reg ?_
  refine o_build [.int .i64 0, .string ⟨#[]⟩, .int .i64 0, .slice none 0 0] rfl rfl ?_
  refine o_putN (us := [.int .i64 0, .string ⟨#[]⟩, .int .i64 0, .slice none 0 0]) hl rfl rfl rfl rfl rfl (.there (.here rfl rfl)) ?_
  clear hl
  intro w9 hl
  refine o_nil (hK _ _ ?_)
  refine wk_ret (retQ_res [.agg (snL (.node 0 [] 0 []) (.slice none 0 0)).toArray] rfl rfl ⟨by decide, ⟨⟨b2, 0, none⟩, rfl, run_loadVarN rfl rfl (hl.rowL (vs := snL (.node 0 [] 0 []) (.slice none 0 0)) 1 0 4 (by simp only [snL, Sn.op, Sn.name, Sn.day, str_nil]; rfl))⟩, trivial⟩ ?_)
  refine ⟨_, _, i, _, _, rfl, Nat.le_refl _, hi, hl.sub (List.cons_sublist_cons.2 (List.nil_sublist _)), KR.nil _ _, .inr ⟨failE_ne _, ?_⟩⟩
  rw [pOne_none hb4 hnw]
  rfl
end Go.Proofs
