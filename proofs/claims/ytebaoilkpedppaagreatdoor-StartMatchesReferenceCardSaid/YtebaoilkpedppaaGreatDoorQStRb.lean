/-
  The reference's reader: Fail and Take.
-/
import Derived.Test.YtebaoilkpedppaaGreatDoorQStRa
import Derived.Test.YtebaoilkpedppaaGreatDoorQO
set_option linter.unusedVariables false
set_option linter.unusedSimpArgs false
set_option linter.unnecessarySimpa false
set_option maxRecDepth 10000
namespace Go.Proofs
open Go Go.Pd Go.Sta
open Go.Lexs (Tok)
attribute [local irreducible] OpsL W RetQ OpsQ OpsC
theorem failR_calls {w : World} {rb i : Nat} {tv : Value} {ts : List Tok} {en er at_ : Int} (hT : TK w rb tv ts) (hl : LH w (OneB rb) w [rsB rb tv i en er at_]) (hi : i ≤ ts.length) :
    Calls Tryz.prog 38 #[.pointer (some ⟨rb, 0, none⟩)] w (fun x w' => ∃ v, x = .returned v ∧ LH w (OneB rb) w' [rsB rb tv i en (if er = 0 then failE (ts.drop i) else er) (if er = 0 then failA en (ts.drop i) else at_)]) := by
  obtain ⟨ta, tc, rfl, hcap⟩ := hT.shape
  have hlen := hT.2.2
  have hp : Row w rb 0 (rsL (.slice ta ts.length tc) i en er at_) := hl.rowL (vs := rsL (.slice ta ts.length tc) i en er at_) 0 0 5 rfl
  refine calls_of Tryz.func38 rfl Tryz.ntmps38 rfl ?_
  refine wk_seq fun K hK => ?_
  by_cases h : i < ts.length
  · obtain ⟨b, o, rfl, hr⟩ := hT.at h
    refine wk_quiet (List.range 10) ?_
    repeat' (first | refine q_mov ?_ | refine q_asg ?_ | refine q_fa ?_ | refine q_ext ?_ | refine q_binN ?_ | refine q_notd ?_ | refine q_notb ?_ | refine q_pick_t ?_ | refine q_pick_f ?_ | refine q_nilc ?_ | refine q_skip ?_ | refine q_lens ?_ | refine q_lenv ?_ | refine q_nil ?_ | refine q_ix (fun _ => ?_) | (refine q_bin ?_ ?_ <;> intro _ <;> try (exfalso; omega)) | refine q_row (fun w_ hw_ => hp.ext hw_) ?_)
    intro w1 hx1
    refine hK _ _ ?_
    clear hK K
    refine wk_cond_t rfl ?_
    refine wk_drawZ (Z := fun _ _ => False) (List.range 12) [12] (fun c s w hd h => h.elim) ?_
    repeat' (first | refine q_mov ?_ | refine q_asg ?_ | refine q_fa ?_ | refine q_ext ?_ | refine q_binN ?_ | refine q_notd ?_ | refine q_notb ?_ | refine q_pick_t ?_ | refine q_pick_f ?_ | refine q_nilc ?_ | refine q_skip ?_ | refine q_lens ?_ | refine q_lenv ?_ | refine q_nil ?_ | refine q_ix (fun _ => ?_) | (refine q_bin ?_ ?_ <;> intro _ <;> try (exfalso; omega)) | refine q_row (fun w_ hw_ => (hp.ext hx1).ext hw_) ?_ | refine q_idx (c := 4) i rfl ?_ | refine q_row (fun w_ hw_ => (hr.ext hx1).ext hw_) ?_)
    intro w2 hx2
    have hl2 := (hl.ext hx1).ext hx2
    refine ops_tail rfl rfl ?_
    refine a_fn (fault_calls hl2.one) ?_
    rintro v w3 hl3
    have hl4 := hl2.swap hl3
    refine o_nil ⟨trivial, ?_⟩
    refine ops_nil ?_
    refine retQ_tmp0 rfl rfl ?_
    rw [List.drop_eq_getElem_cons h]
    exact hl4
  · have hd : ts.drop i = [] := List.drop_eq_nil_of_le (by omega)
    refine wk_quiet (List.range 10) ?_
    repeat' (first | refine q_mov ?_ | refine q_asg ?_ | refine q_fa ?_ | refine q_ext ?_ | refine q_binN ?_ | refine q_notd ?_ | refine q_notb ?_ | refine q_pick_t ?_ | refine q_pick_f ?_ | refine q_nilc ?_ | refine q_skip ?_ | refine q_lens ?_ | refine q_lenv ?_ | refine q_nil ?_ | refine q_ix (fun _ => ?_) | (refine q_bin ?_ ?_ <;> intro _ <;> try (exfalso; omega)) | refine q_row (fun w_ hw_ => hp.ext hw_) ?_)
    intro w1 hx1
    refine hK _ _ ?_
    clear hK K
    refine wk_cond_f rfl ?_
    refine wk_reg ?_
    repeat' (first | refine a_mov ?_ | refine a_asg ?_ | refine a_binN ?_ | refine a_notd ?_ | refine a_notb ?_ | refine a_nilc ?_ | refine a_fa ?_ | refine a_ext ?_ | refine a_lenv ?_ | refine a_lens ?_ | refine a_pick_t ?_ | refine a_pick_f ?_ | refine a_not ?_ | refine a_nilf ?_ | (refine a_bin ?_ ?_ <;> intro _ <;> try (exfalso; omega)) | refine a_ld hl ?_ | (refine a_st hl ?_; clear hl; intro _ hl) | refine a_ix (fun _ => ?_) | refine a_row (hp.ext hx1) ?_ | fail)
    have hl2 := hl.ext hx1
    refine a_fn (fault_calls hl2.one) ?_
    rintro v w3 hl3
    have hl4 := hl2.swap hl3
    refine o_nil ?_
    refine retQ_tmp0 rfl rfl ?_
    rw [hd]
    exact hl4
def tok0 : List Value := [.int .i64 0, .string ⟨#[]⟩, .int .i64 0, .int .i64 0]
theorem takeR_calls {w : World} {rb i k : Nat} {tv : Value} {ts : List Tok} {en : Int} (hT : TK w rb tv ts) (hl : LH w (OneB rb) w [rsB rb tv i en 0 0]) (hi : i ≤ ts.length) :
    Calls Tryz.prog 109 #[.pointer (some ⟨rb, 0, none⟩), .int .i64 (k : Int)] w (fun x w' => ∃ v, x = .returned v ∧ ((∃ h : i < ts.length, ts[i].kind = k ∧ v = .agg (tokL ts[i]).toArray ∧ LH w (OneB rb) w' [rsB rb tv (i + 1 : Nat) en 0 0]) ∨ ((∀ h : i < ts.length, ts[i].kind ≠ k) ∧ v = .agg tok0.toArray ∧ LH w (OneB rb) w' [rsB rb tv i en (failE (ts.drop i)) (failA en (ts.drop i))]))) := by
  obtain ⟨ta, tc, rfl, hcap⟩ := hT.shape
  have hlen := hT.2.2
  refine calls_of Tryz.func109 rfl Tryz.ntmps109 rfl ?_
  refine wk_seq fun K hK => ?_
  refine wk_reg ?_
  refine o_alloc hl [.int .i64 0, .string "".toByteArray, .int .i64 0, .int .i64 0] (by kernel_rfl) rfl ?_
  clear hl
  intro b4 w1 hb4 hl
  refine o_nil (hK _ _ ?_)
  clear hK K
  replace hl := hl.perm (List.Perm.swap _ _ [])
  refine wk_seq fun K hK => ?_
  have hp : Row w1 rb 0 (rsL (.slice ta ts.length tc) i en 0 0) := hl.rowL (vs := rsL (.slice ta ts.length tc) i en 0 0) 0 0 5 rfl
  have hT1 := hT.upd hl.upd
  refine wk_seq fun K2 hK2 => ?_
  by_cases hgo : ∃ h : i < ts.length, ts[i].kind = k
  · obtain ⟨hlt, hk⟩ := hgo
    obtain ⟨b, o, rfl, hr⟩ := hT1.at hlt
    refine wk_quiet (List.range 32) ?_
    repeat' (first | refine q_mov ?_ | refine q_asg ?_ | refine q_fa ?_ | refine q_ext ?_ | refine q_binN ?_ | refine q_notd ?_ | refine q_notb ?_ | refine q_pick_t ?_ | refine q_pick_f ?_ | refine q_nilc ?_ | refine q_skip ?_ | refine q_lens ?_ | refine q_lenv ?_ | refine q_nil ?_ | refine q_ix (fun _ => ?_) | (refine q_bin ?_ ?_ <;> intro _ <;> try (exfalso; omega)) | refine q_row (fun w_ hw_ => hp.ext hw_) ?_ | refine q_idx (c := 4) i rfl ?_ | refine q_row (fun w_ hw_ => hr.ext hw_) ?_)
    intro w2 hx2
    refine hK2 _ _ ?_
    clear hK2 K2
    refine wk_cond_f rfl ?_
    refine wk_skip (hK _ _ ?_)
    clear hK K
    replace hl := hl.ext hx2
    refine wk_seq fun K hK => ?_
    repeat' (first | refine a_mov ?_ | refine a_asg ?_ | refine a_binN ?_ | refine a_notd ?_ | refine a_notb ?_ | refine a_nilc ?_ | refine a_fa ?_ | refine a_ext ?_ | refine a_lenv ?_ | refine a_lens ?_ | refine a_pick_t ?_ | refine a_pick_f ?_ | refine a_not ?_ | refine a_nilf ?_ | (refine o_nil (hK _ _ ?_); clear hK K) | refine wk_reg ?_ | refine wk_seq fun K hK => ?_ | (refine wk_skip (hK _ _ ?_); clear hK K) | (refine wk_label (hK _ _ ?_); clear hK K) | refine wk_scope ?_ | refine wk_block ?_ | refine wk_cond_t rfl ?_ | refine wk_cond_f rfl ?_ | (refine wk_exit ?_; (repeat (refine blockK_other rfl ?_)); refine blockK_same ?_; try ((repeat ((fail_if_success (refine hK _ _ ?_)); clear hK K)); refine hK _ _ ?_; clear hK K)) | (refine a_bin ?_ ?_ <;> intro _ <;> try (exfalso; omega)) | refine a_ld hl ?_ | (refine a_st hl ?_; clear hl; intro _ hl) | refine a_ix (fun _ => ?_) | fail)
    rename_i w3
    have hp3 : Row w3 rb 0 (rsL (.slice (some ⟨b, o, none⟩) ts.length tc) ((i : Int) + 1) en 0 0) := hl.rowL (vs := rsL (.slice (some ⟨b, o, none⟩) ts.length tc) ((i : Int) + 1) en 0 0) 0 0 5 rfl
    obtain ⟨b3, o3, e3, hr3⟩ := (hT.upd hl.upd).at hlt
    cases e3
    refine wk_drawZ (Z := fun _ _ => False) (List.range 11) [11] (fun c s w hd h => h.elim) ?_
    have hi1 : (i : Int) + 1 - 1 = (i : Int) := by omega
    repeat' (first | refine q_mov ?_ | refine q_asg ?_ | refine q_fa ?_ | refine q_ext ?_ | refine q_binN ?_ | refine q_notd ?_ | refine q_notb ?_ | refine q_pick_t ?_ | refine q_pick_f ?_ | refine q_nilc ?_ | refine q_skip ?_ | refine q_lens ?_ | refine q_lenv ?_ | refine q_nil ?_ | refine q_ix (fun _ => ?_) | (refine q_bin ?_ ?_ <;> intro _ <;> try (exfalso; omega)) | refine q_row (fun w_ hw_ => hp3.ext hw_) ?_ | (rw [hi1]; refine q_idx (c := 4) i rfl ?_) | refine q_all (fun w_ hw_ => hr3.ext hw_) ?_)
    intro w4 hx4
    replace hl := hl.ext hx4
    refine ops_tail rfl rfl ?_
    refine o_putN (us := tokL ts[i]) hl rfl rfl rfl (by simp only [tokL, List.all_cons, List.all_nil, oneCell_str]; rfl) rfl (.there (.here rfl rfl)) ?_
    clear hl
    intro w5 hl
    refine o_nil ⟨trivial, ?_⟩
    refine ops_nil (hK _ _ ?_)
    refine wk_ret (retQ_res [.agg (tokL ts[i]).toArray] rfl rfl ⟨by decide, ⟨⟨b4, 0, none⟩, rfl, run_loadVarN rfl rfl (hl.rowL (vs := tokL ts[i]) 1 0 4 rfl)⟩, trivial⟩ ?_)
    exact .inl ⟨hlt, hk, rfl, hl.sub (List.cons_sublist_cons.2 (List.nil_sublist _))⟩
  · have hno : ∀ h : i < ts.length, ts[i].kind ≠ k := fun h e => hgo ⟨h, e⟩
    refine wk_cut [] (fun _ : Unit => [(0, .pointer (some ⟨rb, 0, none⟩)), (4, .pointer (some ⟨b4, 0, none⟩)), (36, .bool true)]) (fun _ w' => Ext w1 w') ?_ ?_
    · by_cases hlt : i < ts.length
      · have hk := hno hlt
        obtain ⟨b, o, rfl, hr⟩ := hT1.at hlt
        refine wk_quiet (List.range 32) ?_
        repeat' (first | refine q_mov ?_ | refine q_asg ?_ | refine q_fa ?_ | refine q_ext ?_ | refine q_binN ?_ | refine q_notd ?_ | refine q_notb ?_ | refine q_pick_t ?_ | refine q_pick_f ?_ | refine q_nilc ?_ | refine q_skip ?_ | refine q_lens ?_ | refine q_lenv ?_ | refine q_nil ?_ | refine q_ix (fun _ => ?_) | (refine q_bin ?_ ?_ <;> intro _ <;> try (exfalso; omega)) | refine q_row (fun w_ hw_ => hp.ext hw_) ?_ | refine q_idx (c := 4) i rfl ?_ | refine q_row (fun w_ hw_ => hr.ext hw_) ?_)
        intro w2 hx2
        exact ⟨(), ⟨rfl, rfl, rfl, trivial⟩, rfl, hx2⟩
      · refine wk_quiet (List.range 32) ?_
        repeat' (first | refine q_mov ?_ | refine q_asg ?_ | refine q_fa ?_ | refine q_ext ?_ | refine q_binN ?_ | refine q_notd ?_ | refine q_notb ?_ | refine q_pick_t ?_ | refine q_pick_f ?_ | refine q_nilc ?_ | refine q_skip ?_ | refine q_lens ?_ | refine q_lenv ?_ | refine q_nil ?_ | refine q_ix (fun _ => ?_) | (refine q_bin ?_ ?_ <;> intro _ <;> try (exfalso; omega)) | refine q_row (fun w_ hw_ => hp.ext hw_) ?_)
        intro w2 hx2
        exact ⟨(), ⟨rfl, rfl, rfl, trivial⟩, rfl, hx2⟩
    rintro _ t w2 hx2
    replace hl := hl.ext hx2
    refine hK2 _ _ ?_
    clear hK2 K2
    refine wk_cond_t rfl ?_
    refine wk_seq fun K2 hK2 => ?_
    refine wk_reg ?_
    refine a_mov ?_
    refine a_fn (failR_calls (hT1.upd (ext_upd hx2)) hl.one hi) ?_
    rintro v w3 hl3
    replace hl := hl.swap hl3
    refine o_nil (hK2 _ _ ?_)
    clear hK2 K2 hl3
    rw [if_pos rfl, if_pos rfl] at hl
    refine wk_seq fun K2 hK2 => ?_
    refine wk_reg ?_
    refine o_build [.int .i64 0, .string ⟨#[]⟩, .int .i64 0, .int .i64 0] rfl rfl ?_
    refine o_putN (us := tok0) hl rfl rfl rfl rfl rfl (.there (.here rfl rfl)) ?_
    clear hl
    intro w4 hl
    refine o_nil (hK2 _ _ ?_)
    clear hK2 K2
    refine wk_ret (retQ_res [.agg tok0.toArray] rfl rfl ⟨by decide, ⟨⟨b4, 0, none⟩, rfl, run_loadVarN rfl rfl (hl.rowL (vs := tok0) 1 0 4 rfl)⟩, trivial⟩ ?_)
    exact .inr ⟨hno, rfl, hl.sub (List.cons_sublist_cons.2 (List.nil_sublist _))⟩
end Go.Proofs
