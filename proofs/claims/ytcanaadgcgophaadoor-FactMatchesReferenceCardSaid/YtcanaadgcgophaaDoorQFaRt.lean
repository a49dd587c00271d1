/-
  The reference's reader: sees, fault, take.
-/
import Derived.Test.YtcanaadgcgophaaDoorQFE
import Derived.Test.YtcanaadgcgophaaDoorQFaMem
import Derived.Test.YtcanaadgcgophaaDoorQFD
set_option linter.unusedVariables false
set_option linter.unusedSimpArgs false
set_option linter.unnecessarySimpa false
set_option maxRecDepth 10000
namespace Go.Proofs
open Go Go.Pd Go.Fac
open Go.Lexs (Tok)
attribute [local irreducible] OpsL W RetQ OpsQ OpsC
def rsL (tv : Value) (en : Int) (s : RS) : List Value := [tv, .int .i64 (s.i : Int), .int .i64 en, .int .i64 s.er, .int .i64 s.at_]
def rsB (rb : Nat) (tv : Value) (en : Int) (s : RS) : Nat × Obj := (rb, .cells (rsL tv en s).toArray 71 (0, 0))
set_option maxHeartbeats 4000000 in
theorem sees6_calls {w : World} {rb k : Nat} {tv : Value} {ts : List Tok} {en : Int} {s : RS} {wd : Tx} (hT : TK w rb tv ts) (hp : Row w rb 0 (rsL tv en s)) (hi : s.i ≤ ts.length) :
    Calls Tryd.prog 61 #[.pointer (some ⟨rb, 0, none⟩), .int .i64 (k : Int), str wd] w (fun e w' => ∃ v, e = .returned v ∧ v = .bool (seesS ts s k wd) ∧ Ext w w') := by
  obtain ⟨ta, tc, rfl, hcap⟩ := hT.shape
  have hlen := hT.2.2
  refine calls_of Tryd.func61 rfl Tryd.ntmps61 rfl ?_
  refine wk_seq fun K hK => ?_
  refine wk_reg ?_
  refine a_asg ?_
  refine o_nil (hK _ _ ?_)
  clear hK K
  refine wk_seq fun K hK => ?_
  by_cases hz : s.er = 0
  · by_cases h : s.i < ts.length
    · obtain ⟨b, o, rfl, hr⟩ := hT.at h
      have hdr := List.drop_eq_getElem_cons h
      have hki : ((ts[s.i].kind : Int) = (k : Int)) ↔ ts[s.i].kind = k := by omega
      have hval : seesS ts s k wd = (decide (ts[s.i].kind = k) && (decide (wd = []) || decide (ts[s.i].text = wd))) := by
        unfold seesS
        rw [decide_eq_true hz, hdr]
        rfl
      by_cases hk : ts[s.i].kind = k
      · by_cases hw0 : wd = []
        · rw [decide_eq_true hk, decide_eq_true hw0] at hval
          refine wk_quiet (List.range 52) ?_
          repeat' (first | refine q_mov ?_ | refine q_asg ?_ | refine q_fa ?_ | refine q_ext ?_ | refine q_binN ?_ | refine q_notd ?_ | refine q_notb ?_ | refine q_pick_t ?_ | refine q_pick_f ?_ | refine q_nilc ?_ | refine q_skip ?_ | refine q_lens ?_ | refine q_lenv ?_ | refine q_nil ?_ | refine q_ix (fun _ => ?_) | (refine q_bin ?_ ?_ <;> intro _ <;> try (exfalso; omega)) | refine q_row (fun w_ hw_ => hp.ext hw_) ?_ | refine q_idx (c := 4) s.i rfl ?_ | refine q_row (fun w_ hw_ => hr.ext hw_) ?_ | refine q_eqsT (a := wd) (b := []) rfl rfl rfl (by simp only [str_eq]; rfl) (fun _ => ?_) (fun h_ => absurd hw0 h_))
          intro w1 hx1
          refine hK _ _ ?_
          refine wk_ret (retQ_tmp1 Tryd.results61 (by decide) rfl (by conv => lhs; whnf) ?_)
          exact ⟨by rw [hval]; rfl, hx1⟩
        · by_cases hw1 : ts[s.i].text = wd
          · rw [decide_eq_true hk, decide_eq_false hw0, decide_eq_true hw1] at hval
            refine wk_quiet (List.range 52) ?_
            repeat' (first | refine q_mov ?_ | refine q_asg ?_ | refine q_fa ?_ | refine q_ext ?_ | refine q_binN ?_ | refine q_notd ?_ | refine q_notb ?_ | refine q_pick_t ?_ | refine q_pick_f ?_ | refine q_nilc ?_ | refine q_skip ?_ | refine q_lens ?_ | refine q_lenv ?_ | refine q_nil ?_ | refine q_ix (fun _ => ?_) | (refine q_bin ?_ ?_ <;> intro _ <;> try (exfalso; omega)) | refine q_row (fun w_ hw_ => hp.ext hw_) ?_ | refine q_idx (c := 4) s.i rfl ?_ | refine q_row (fun w_ hw_ => hr.ext hw_) ?_ | refine q_eqsT (a := ts[s.i].text) (b := wd) rfl rfl rfl rfl (fun _ => ?_) (fun h_ => absurd hw1 h_) | refine q_eqsT (a := wd) (b := []) rfl rfl rfl (by simp only [str_eq]; rfl) (fun h_ => absurd h_ hw0) (fun _ => ?_))
            intro w1 hx1
            refine hK _ _ ?_
            refine wk_ret (retQ_tmp1 Tryd.results61 (by decide) rfl (by conv => lhs; whnf) ?_)
            exact ⟨by rw [hval]; rfl, hx1⟩
          · rw [decide_eq_true hk, decide_eq_false hw0, decide_eq_false hw1] at hval
            refine wk_quiet (List.range 52) ?_
            repeat' (first | refine q_mov ?_ | refine q_asg ?_ | refine q_fa ?_ | refine q_ext ?_ | refine q_binN ?_ | refine q_notd ?_ | refine q_notb ?_ | refine q_pick_t ?_ | refine q_pick_f ?_ | refine q_nilc ?_ | refine q_skip ?_ | refine q_lens ?_ | refine q_lenv ?_ | refine q_nil ?_ | refine q_ix (fun _ => ?_) | (refine q_bin ?_ ?_ <;> intro _ <;> try (exfalso; omega)) | refine q_row (fun w_ hw_ => hp.ext hw_) ?_ | refine q_idx (c := 4) s.i rfl ?_ | refine q_row (fun w_ hw_ => hr.ext hw_) ?_ | refine q_eqsT (a := ts[s.i].text) (b := wd) rfl rfl rfl rfl (fun h_ => absurd h_ hw1) (fun _ => ?_) | refine q_eqsT (a := wd) (b := []) rfl rfl rfl (by simp only [str_eq]; rfl) (fun h_ => absurd h_ hw0) (fun _ => ?_))
            intro w1 hx1
            refine hK _ _ ?_
            refine wk_ret (retQ_tmp1 Tryd.results61 (by decide) rfl (by conv => lhs; whnf) ?_)
            exact ⟨by rw [hval]; rfl, hx1⟩
      · rw [decide_eq_false hk] at hval
        refine wk_quiet (List.range 52) ?_
        repeat' (first | refine q_mov ?_ | refine q_asg ?_ | refine q_fa ?_ | refine q_ext ?_ | refine q_binN ?_ | refine q_notd ?_ | refine q_notb ?_ | refine q_pick_t ?_ | refine q_pick_f ?_ | refine q_nilc ?_ | refine q_skip ?_ | refine q_lens ?_ | refine q_lenv ?_ | refine q_nil ?_ | refine q_ix (fun _ => ?_) | (refine q_bin ?_ ?_ <;> intro _ <;> try (exfalso; omega)) | refine q_row (fun w_ hw_ => hp.ext hw_) ?_ | refine q_idx (c := 4) s.i rfl ?_ | refine q_row (fun w_ hw_ => hr.ext hw_) ?_)
        intro w1 hx1
        refine hK _ _ ?_
        refine wk_ret (retQ_tmp1 Tryd.results61 (by decide) rfl (by conv => lhs; whnf) ?_)
        exact ⟨by rw [hval]; rfl, hx1⟩
    · have hd : ts.drop s.i = [] := List.drop_eq_nil_of_le (by omega)
      have hval : seesS ts s k wd = false := by
        unfold seesS
        rw [hd, decide_eq_true hz]
        rfl
      refine wk_quiet (List.range 52) ?_
      repeat' (first | refine q_mov ?_ | refine q_asg ?_ | refine q_fa ?_ | refine q_ext ?_ | refine q_binN ?_ | refine q_notd ?_ | refine q_notb ?_ | refine q_pick_t ?_ | refine q_pick_f ?_ | refine q_nilc ?_ | refine q_skip ?_ | refine q_lens ?_ | refine q_lenv ?_ | refine q_nil ?_ | refine q_ix (fun _ => ?_) | (refine q_bin ?_ ?_ <;> intro _ <;> try (exfalso; omega)) | refine q_row (fun w_ hw_ => hp.ext hw_) ?_)
      intro w1 hx1
      refine hK _ _ ?_
      refine wk_ret (retQ_tmp1 Tryd.results61 (by decide) rfl (by conv => lhs; whnf) ?_)
      exact ⟨by rw [hval], hx1⟩
  · have hval : seesS ts s k wd = false := seesS_dead hz k wd
    refine wk_quiet (List.range 52) ?_
    repeat' (first | refine q_mov ?_ | refine q_asg ?_ | refine q_fa ?_ | refine q_ext ?_ | refine q_binN ?_ | refine q_notd ?_ | refine q_notb ?_ | refine q_pick_t ?_ | refine q_pick_f ?_ | refine q_nilc ?_ | refine q_skip ?_ | refine q_lens ?_ | refine q_lenv ?_ | refine q_nil ?_ | refine q_ix (fun _ => ?_) | (refine q_bin ?_ ?_ <;> intro _ <;> try (exfalso; omega)) | refine q_row (fun w_ hw_ => hp.ext hw_) ?_)
    intro w1 hx1
    refine hK _ _ ?_
    refine wk_ret (retQ_tmp1 Tryd.results61 (by decide) rfl (by conv => lhs; whnf) ?_)
    exact ⟨by rw [hval], hx1⟩
theorem fault6_calls {w : World} {rb : Nat} {tv : Value} {en e a : Int} {s : RS} (hl : LH w (OneB rb) w [rsB rb tv en s]) :
    Calls Tryd.prog 47 #[.pointer (some ⟨rb, 0, none⟩), .int .i64 e, .int .i64 a] w (fun x w' => ∃ v, x = .returned v ∧ LH w (OneB rb) w' [rsB rb tv en (s.fault e a)]) := by
  refine calls_of Tryd.func47 rfl Tryd.ntmps47 rfl ?_
  unfold RS.fault
  by_cases hz : s.er = 0
  · repeat' (first | refine a_mov ?_ | refine a_asg ?_ | refine a_binN ?_ | refine a_notd ?_ | refine a_notb ?_ | refine a_nilc ?_ | refine a_fa ?_ | refine a_ext ?_ | refine a_lenv ?_ | refine a_lens ?_ | refine a_pick_t ?_ | refine a_pick_f ?_ | refine a_not ?_ | refine a_nilf ?_ | (refine o_nil (hK _ _ ?_); clear hK K) | refine wk_reg ?_ | refine wk_seq fun K hK => ?_ | (refine wk_skip (hK _ _ ?_); clear hK K) | (refine wk_label (hK _ _ ?_); clear hK K) | refine wk_scope ?_ | refine wk_block ?_ | refine wk_cond_t rfl ?_ | refine wk_cond_f rfl ?_ | (refine wk_exit ?_; (repeat (refine blockK_other rfl ?_)); refine blockK_same ?_; try ((repeat ((fail_if_success (refine hK _ _ ?_)); clear hK K)); refine hK _ _ ?_; clear hK K)) | (refine a_bin ?_ ?_ <;> intro _ <;> try (exfalso; omega)) | refine a_ld hl ?_ | (refine a_st hl ?_; clear hl; intro _ hl) | refine a_ix (fun _ => ?_) | fail)
    refine o_nil (retQ_tmp0 rfl rfl ?_)
    rw [if_pos hz]
    exact hl
  · repeat' (first | refine a_mov ?_ | refine a_asg ?_ | refine a_binN ?_ | refine a_notd ?_ | refine a_notb ?_ | refine a_nilc ?_ | refine a_fa ?_ | refine a_ext ?_ | refine a_lenv ?_ | refine a_lens ?_ | refine a_pick_t ?_ | refine a_pick_f ?_ | refine a_not ?_ | refine a_nilf ?_ | (refine o_nil (hK _ _ ?_); clear hK K) | refine wk_reg ?_ | refine wk_seq fun K hK => ?_ | (refine wk_skip (hK _ _ ?_); clear hK K) | (refine wk_label (hK _ _ ?_); clear hK K) | refine wk_scope ?_ | refine wk_block ?_ | refine wk_cond_t rfl ?_ | refine wk_cond_f rfl ?_ | (refine wk_exit ?_; (repeat (refine blockK_other rfl ?_)); refine blockK_same ?_; try ((repeat ((fail_if_success (refine hK _ _ ?_)); clear hK K)); refine hK _ _ ?_; clear hK K)) | (refine a_bin ?_ ?_ <;> intro _ <;> try (exfalso; omega)) | refine a_ld hl ?_ | (refine a_st hl ?_; clear hl; intro _ hl) | refine a_ix (fun _ => ?_) | fail)
    refine wk_skip (retQ_tmp0 rfl rfl ?_)
    rw [if_neg hz]
    exact hl
theorem tokZ_L : tokL tokZ = [.int .i64 0, .string ⟨#[]⟩, .int .i64 0, .int .i64 0] := by
  simp only [tokL, tokZ, str_nil]
  rfl
set_option maxHeartbeats 4000000 in
theorem take6_calls {w : World} {rb k : Nat} {tv : Value} {ts : List Tok} {en : Int} {s : RS} {wd : Tx} (hT : TK w rb tv ts) (hl : LH w (OneB rb) w [rsB rb tv en s]) (hi : s.i ≤ ts.length) :
    Calls Tryd.prog 46 #[.pointer (some ⟨rb, 0, none⟩), .int .i64 (k : Int), str wd] w (fun x w' => ∃ v, x = .returned v ∧ v = .agg (tokL (takeS en ts k wd s).1).toArray ∧ LH w (OneB rb) w' [rsB rb tv en (takeS en ts k wd s).2]) := by
  obtain ⟨ta, tc, rfl, hcap⟩ := hT.shape
  have hlen := hT.2.2
  refine calls_of Tryd.func46 rfl Tryd.ntmps46 rfl ?_
  refine wk_seq fun K hK => ?_
  refine wk_reg ?_
  refine o_alloc hl [.int .i64 0, .string "".toByteArray, .int .i64 0, .int .i64 0] (by kernel_rfl) rfl ?_
  clear hl
  intro b6 w1 hb6 hl
  refine o_nil (hK _ _ ?_)
  clear hK K
  replace hl := hl.perm (List.Perm.swap _ _ [])
  have hT1 := hT.upd hl.upd
  refine wk_seq fun K hK => ?_
  refine wk_seq fun K2 hK2 => ?_
  refine wk_reg ?_
  refine a_mov ?_
  refine a_mov ?_
  refine a_mov ?_
  refine a_fn (sees6_calls (k := k) (wd := wd) hT1 (hl.rowL (vs := rsL (.slice ta ts.length tc) en s) 0 0 5 rfl) hi) ?_
  rintro _ w2 ⟨rfl, hx2⟩
  replace hl := hl.ext hx2
  have hT2 := hT1.upd (ext_upd hx2)
  refine o_nil (hK2 _ _ ?_)
  clear hK2 K2 hT1
  cases hsb : seesS ts s k wd
  rotate_left
  · have hlt := seesS_lt hsb
    have htk : takeS en ts k wd s = (ts[s.i], s.step) := by
      unfold takeS
      rw [if_pos hsb, List.drop_eq_getElem_cons hlt]
      rfl
    rw [htk]
    clear htk hsb
    refine wk_cond_t rfl ?_
    refine wk_seq fun K2 hK2 => ?_
    repeat' (first | refine a_mov ?_ | refine a_asg ?_ | refine a_binN ?_ | refine a_notd ?_ | refine a_notb ?_ | refine a_nilc ?_ | refine a_fa ?_ | refine a_ext ?_ | refine a_lenv ?_ | refine a_lens ?_ | refine a_pick_t ?_ | refine a_pick_f ?_ | refine a_not ?_ | refine a_nilf ?_ | (refine o_nil (hK _ _ ?_); clear hK K) | refine wk_reg ?_ | refine wk_seq fun K hK => ?_ | (refine wk_skip (hK _ _ ?_); clear hK K) | (refine wk_label (hK _ _ ?_); clear hK K) | refine wk_scope ?_ | refine wk_block ?_ | refine wk_cond_t rfl ?_ | refine wk_cond_f rfl ?_ | (refine wk_exit ?_; (repeat (refine blockK_other rfl ?_)); refine blockK_same ?_; try ((repeat ((fail_if_success (refine hK _ _ ?_)); clear hK K)); refine hK _ _ ?_; clear hK K)) | (refine a_bin ?_ ?_ <;> intro _ <;> try (exfalso; omega)) | refine a_ld hl ?_ | (refine a_st hl ?_; clear hl; intro _ hl) | refine a_ix (fun _ => ?_) | fail)
    refine o_nil (hK2 _ _ ?_)
    clear hK2 K2
    rename_i w3
    have hl : LH w (OneB rb) w3 [rsB rb (.slice ta ts.length tc) en s.step, (b6, _)] := hl
    have hp3 : Row w3 rb 0 ([.slice ta ts.length tc, .int .i64 ((s.i : Int) + 1), .int .i64 en, .int .i64 s.er, .int .i64 s.at_]) := hl.rowL (vs := [.slice ta ts.length tc, .int .i64 ((s.i : Int) + 1), .int .i64 en, .int .i64 s.er, .int .i64 s.at_]) 0 0 5 rfl
    obtain ⟨b3, o3, e3, hr3⟩ := (hT.upd hl.upd).at hlt
    cases e3
    have hi1 : (s.i : Int) + 1 - 1 = (s.i : Int) := by omega
    refine wk_seq fun K2 hK2 => ?_
    refine wk_draw (List.range 11) [] [11] (fun w' => Ext w3 w') (fun _ => True) rfl (by kernel_rfl) (by intro _ _ _ _ h; first | exact h | (simp only [BlockK, NoGoto, RetQ] at h)) (fun _ h => Upd.of_heap h) (fun _ _ => trivial) ?_
    repeat' (first | refine q_mov ?_ | refine q_asg ?_ | refine q_fa ?_ | refine q_ext ?_ | refine q_binN ?_ | refine q_notd ?_ | refine q_notb ?_ | refine q_pick_t ?_ | refine q_pick_f ?_ | refine q_nilc ?_ | refine q_skip ?_ | refine q_lens ?_ | refine q_lenv ?_ | refine q_nil ?_ | refine q_ix (fun _ => ?_) | (refine q_bin ?_ ?_ <;> intro _ <;> try (exfalso; omega)) | refine q_row (fun w_ hw_ => hp3.ext hw_) ?_ | (rw [hi1]; refine q_idx (c := 4) s.i rfl ?_) | refine q_all (fun w_ hw_ => hr3.ext hw_) ?_)
    intro w4 hx4
    replace hl := hl.ext hx4
    refine ops_tail rfl rfl ?_
    refine o_putN (us := tokL ts[s.i]) hl rfl rfl rfl (by simp only [tokL, List.all_cons, List.all_nil, oneCell_str]; rfl) rfl (.there (.here rfl rfl)) ?_
    clear hl
    intro w5 hl
    refine o_nil ⟨trivial, ?_⟩
    refine ops_nil (hK2 _ _ ?_)
    refine wk_ret (retQ_res [.agg (tokL ts[s.i]).toArray] rfl rfl ⟨by decide, ⟨⟨b6, 0, none⟩, rfl, run_loadVarN rfl rfl (hl.rowL (vs := tokL ts[s.i]) 1 0 4 rfl)⟩, trivial⟩ ?_)
    exact ⟨rfl, hl.sub (List.cons_sublist_cons.2 (List.nil_sublist _))⟩
  · have htk : takeS en ts k wd s = (tokZ, s.fault (failE (ts.drop s.i)) (failA en (ts.drop s.i))) := by
      unfold takeS
      rw [if_neg (by rw [hsb]; decide)]
    clear hsb
    refine wk_cond_f rfl ?_
    refine wk_skip (hK _ _ ?_)
    clear hK K
    refine wk_seq fun K hK => ?_
    refine wk_cut [] (fun _ : Unit => [(6, .pointer (some ⟨b6, 0, none⟩))]) (fun _ w' => LH w (OneB rb) w' [rsB rb (.slice ta ts.length tc) en (s.fault (failE (ts.drop s.i)) (failA en (ts.drop s.i))), (b6, .cells [.int .i64 0, .string "".toByteArray, .int .i64 0, .int .i64 0].toArray 65 (0, 0))]) ?_ ?_
    · have hp : Row w2 rb 0 (rsL (.slice ta ts.length tc) en s) := hl.rowL (vs := rsL (.slice ta ts.length tc) en s) 0 0 5 rfl
      refine wk_seq fun K2 hK2 => ?_
      by_cases hlt : s.i < ts.length
      · obtain ⟨b, o, e3, hr⟩ := hT2.at hlt
        cases e3
        refine wk_quiet (List.range 10) ?_
        repeat' (first | refine q_mov ?_ | refine q_asg ?_ | refine q_fa ?_ | refine q_ext ?_ | refine q_binN ?_ | refine q_notd ?_ | refine q_notb ?_ | refine q_pick_t ?_ | refine q_pick_f ?_ | refine q_nilc ?_ | refine q_skip ?_ | refine q_lens ?_ | refine q_lenv ?_ | refine q_nil ?_ | refine q_ix (fun _ => ?_) | (refine q_bin ?_ ?_ <;> intro _ <;> try (exfalso; omega)) | refine q_row (fun w_ hw_ => hp.ext hw_) ?_)
        intro w3 hx3
        refine hK2 _ _ ?_
        clear hK2 K2
        refine wk_cond_t rfl ?_
        refine wk_draw (List.range 12) [] [12] (fun w' => Ext w3 w') (fun _ => True) rfl (by kernel_rfl) (by intro _ _ _ _ h; first | exact h | (simp only [BlockK, NoGoto, RetQ] at h)) (fun _ h => Upd.of_heap h) (fun _ _ => trivial) ?_
        repeat' (first | refine q_mov ?_ | refine q_asg ?_ | refine q_fa ?_ | refine q_ext ?_ | refine q_binN ?_ | refine q_notd ?_ | refine q_notb ?_ | refine q_pick_t ?_ | refine q_pick_f ?_ | refine q_nilc ?_ | refine q_skip ?_ | refine q_lens ?_ | refine q_lenv ?_ | refine q_nil ?_ | refine q_ix (fun _ => ?_) | (refine q_bin ?_ ?_ <;> intro _ <;> try (exfalso; omega)) | refine q_row (fun w_ hw_ => (hp.ext hx3).ext hw_) ?_ | refine q_idx (c := 4) s.i rfl ?_ | refine q_row (vs := tokL ts[s.i]) (fun w_ hw_ => (hr.ext hx3).ext hw_) ?_)
        intro w4 hx4
        have hl2 := (hl.ext hx3).ext hx4
        refine ops_tail rfl rfl ?_
        refine a_fn (fault6_calls hl2.one) ?_
        rintro v w5 hl3
        have hl4 := hl2.swap hl3
        refine o_nil ⟨trivial, ?_⟩
        refine ops_nil ⟨(), ⟨rfl, trivial⟩, rfl, ?_⟩
        rw [List.drop_eq_getElem_cons hlt]
        exact hl4
      · have hd : ts.drop s.i = [] := List.drop_eq_nil_of_le (by omega)
        refine wk_quiet (List.range 10) ?_
        repeat' (first | refine q_mov ?_ | refine q_asg ?_ | refine q_fa ?_ | refine q_ext ?_ | refine q_binN ?_ | refine q_notd ?_ | refine q_notb ?_ | refine q_pick_t ?_ | refine q_pick_f ?_ | refine q_nilc ?_ | refine q_skip ?_ | refine q_lens ?_ | refine q_lenv ?_ | refine q_nil ?_ | refine q_ix (fun _ => ?_) | (refine q_bin ?_ ?_ <;> intro _ <;> try (exfalso; omega)) | refine q_row (fun w_ hw_ => hp.ext hw_) ?_)
        intro w3 hx3
        refine hK2 _ _ ?_
        clear hK2 K2
        refine wk_cond_f rfl ?_
        refine wk_reg ?_
        repeat' (first | refine a_mov ?_ | refine a_asg ?_ | refine a_binN ?_ | refine a_notd ?_ | refine a_notb ?_ | refine a_nilc ?_ | refine a_fa ?_ | refine a_ext ?_ | refine a_lenv ?_ | refine a_lens ?_ | refine a_pick_t ?_ | refine a_pick_f ?_ | refine a_not ?_ | refine a_nilf ?_ | (refine a_bin ?_ ?_ <;> intro _ <;> try (exfalso; omega)) | refine a_ld hl ?_ | (refine a_st hl ?_; clear hl; intro _ hl) | refine a_ix (fun _ => ?_) | refine a_row (hp.ext hx3) ?_ | fail)
        have hl2 := hl.ext hx3
        refine a_fn (fault6_calls hl2.one) ?_
        rintro v w5 hl3
        have hl4 := hl2.swap hl3
        refine o_nil ⟨(), ⟨rfl, trivial⟩, rfl, ?_⟩
        rw [hd]
        exact hl4
    rintro _ t w3 hl
    refine hK _ _ ?_
    clear hK K
    refine wk_seq fun K hK => ?_
    refine wk_reg ?_
    refine o_build [.int .i64 0, .string ⟨#[]⟩, .int .i64 0, .int .i64 0] rfl rfl ?_
    refine o_putN (us := tokL tokZ) hl rfl rfl (by rw [tokZ_L]; rfl) (by rw [tokZ_L]; rfl) rfl (.there (.here rfl rfl)) ?_
    clear hl
    intro w4 hl
    refine o_nil (hK _ _ ?_)
    clear hK K
    refine wk_ret (retQ_res [.agg (tokL tokZ).toArray] rfl rfl ⟨by decide, ⟨⟨b6, 0, none⟩, rfl, run_loadVarN rfl rfl (hl.rowL (vs := tokL tokZ) 1 0 4 rfl)⟩, trivial⟩ ?_)
    exact ⟨by rw [htk]; rfl, by rw [htk]; exact hl.sub (List.cons_sublist_cons.2 (List.nil_sublist _))⟩
end Go.Proofs
