/-
  Facts: the reader's helpers (take, check, span, flag).
-/
import Derived.Test.YtcanaadgcgophaaDoorFaMem
import Derived.Test.YtcanaadgcgophaaDoorFld
set_option linter.unusedVariables false
set_option linter.unusedSimpArgs false
set_option linter.unnecessarySimpa false
set_option maxRecDepth 10000
namespace Go.Proofs
open Go Go.Pd Go.Fac
open Go.Lexs (Tok)
attribute [local irreducible] OpsL W RetQ OpsQ OpsC
/-- A token that is taken; or a fault at its place. -/
def TakeV (w : World) (pb : Nat) (tv : Value) (ts : List Tok) (en : Int) (i k : Nat) (wd : Tx) (v : Value) (w' : World) : Prop :=
  ∃ h : i < ts.length, takeK en k wd (ts.drop i) = .ok ts[i] (ts.drop (i + 1)) ∧ v = .agg (tokL ts[i]).toArray ∧ LH w (OneB pb) w' [psB pb tv (i + 1 : Nat) en]
/-- What a reader panics with. -/
def RdZ {α : Type} (w : World) (pb : Nat) (read : Rd α) (ch : List PanicEntry) (w' : World) : Prop := ∃ e a, read = .bad e a ∧ ch = faultC e a ∧ Upd (OneB pb) w w'
set_option maxHeartbeats 4000000 in
theorem take_calls {w : World} {pb : Nat} {tv : Value} {ts : List Tok} {i k : Nat} {en : Int} {wd : Tx} (hT : TK w pb tv ts) (hl : LH w (OneB pb) w [psB pb tv i en]) (hi : i ≤ ts.length) :
    Calls Tryd.prog 40 #[.pointer (some ⟨pb, 0, none⟩), .int .i64 (k : Int), str wd] w (EndP (TakeV w pb tv ts en i k wd) (RdZ w pb (takeK en k wd (ts.drop i)))) := by
  obtain ⟨ta, tc, rfl, hcap⟩ := hT.shape
  have hlen := hT.2.2
  refine calls_ofP Tryd.func40 rfl Tryd.ntmps40 rfl ?_
  refine wk_seq fun K hK => ?_
  refine wk_reg ?_
  refine o_alloc hl [.int .i64 0, .string "".toByteArray, .int .i64 0, .int .i64 0] (by kernel_rfl) rfl ?_
  clear hl
  intro b6 w1 hb6 hl
  replace hl := hl.perm (List.Perm.swap _ _ [])
  refine o_nil (hK _ _ ?_)
  clear hK K
  have hp : Row w1 pb 0 (psL (.slice ta ts.length tc) i en) := hl.rowL (vs := psL (.slice ta ts.length tc) i en) 0 0 3 rfl
  have hT1 := hT.upd hl.upd
  refine wk_seq fun K hK => ?_
  refine wk_seq fun K2 hK2 => ?_
  by_cases h : i = ts.length
  · subst h
    refine wk_np (wk_quiet (List.range 10) ?_)
    repeat' (first | refine q_mov ?_ | refine q_asg ?_ | refine q_fa ?_ | refine q_ext ?_ | refine q_binN ?_ | refine q_notd ?_ | refine q_notb ?_ | refine q_pick_t ?_ | refine q_pick_f ?_ | refine q_nilc ?_ | refine q_skip ?_ | refine q_lens ?_ | refine q_lenv ?_ | refine q_nil ?_ | refine q_ix (fun _ => ?_) | (refine q_bin ?_ ?_ <;> intro _ <;> try (exfalso; omega)) | refine q_row (fun w_ hw_ => hp.ext hw_) ?_)
    intro w2 hx2
    refine hK2 _ _ ?_
    clear hK2 K2
    refine wk_cond_t rfl ?_
    refine wk_reg ?_
    repeat' (first | refine a_mov ?_ | refine a_asg ?_ | refine a_binN ?_ | refine a_notd ?_ | refine a_notb ?_ | refine a_nilc ?_ | refine a_fa ?_ | refine a_ext ?_ | refine a_lenv ?_ | refine a_lens ?_ | refine a_pick_t ?_ | refine a_pick_f ?_ | refine a_not ?_ | refine a_nilf ?_ | (refine a_bin ?_ ?_ <;> intro _ <;> try (exfalso; omega)) | refine a_ld hl ?_ | (refine a_st hl ?_; clear hl; intro _ hl) | refine a_ix (fun _ => ?_) | refine a_row (hp.ext hx2) ?_ | fail)
    refine o_build [.int .i64 6, .int .i64 en] rfl rfl ?_
    refine a_mif (v := .agg #[.int .i64 6, .int .i64 en]) ?_
    refine a_panic (v := faultV 6 en) (retP_panic rfl ⟨6, en, ?_, rfl, (hl.ext hx2).upd⟩)
    rw [List.drop_length]
    rfl
  · have hlt : i < ts.length := by omega
    have hdr := List.drop_eq_getElem_cons hlt
    obtain ⟨b, o, rfl, hr⟩ := hT1.at hlt
    refine wk_np (wk_quiet (List.range 10) ?_)
    repeat' (first | refine q_mov ?_ | refine q_asg ?_ | refine q_fa ?_ | refine q_ext ?_ | refine q_binN ?_ | refine q_notd ?_ | refine q_notb ?_ | refine q_pick_t ?_ | refine q_pick_f ?_ | refine q_nilc ?_ | refine q_skip ?_ | refine q_lens ?_ | refine q_lenv ?_ | refine q_nil ?_ | refine q_ix (fun _ => ?_) | (refine q_bin ?_ ?_ <;> intro _ <;> try (exfalso; omega)) | refine q_row (fun w_ hw_ => hp.ext hw_) ?_)
    intro w2 hx2
    refine hK2 _ _ ?_
    clear hK2 K2
    refine wk_cond_f rfl ?_
    refine wk_skip (hK _ _ ?_)
    clear hK K
    replace hl := hl.ext hx2
    replace hp := hp.ext hx2
    replace hr := hr.ext hx2
    refine wk_seq fun K hK => ?_
    refine wk_np (wk_draw (List.range 10) [3, 7, 9] [10, 11] (fun w' => Ext w2 w') (fun w' => Ext w2 w') rfl (by kernel_rfl) (by intro _ _ _ _ h; exact h) (fun _ h => Upd.of_heap h) (fun _ h => h) ?_)
    repeat' (first | refine q_mov ?_ | refine q_asg ?_ | refine q_fa ?_ | refine q_ext ?_ | refine q_binN ?_ | refine q_notd ?_ | refine q_notb ?_ | refine q_pick_t ?_ | refine q_pick_f ?_ | refine q_nilc ?_ | refine q_skip ?_ | refine q_lens ?_ | refine q_lenv ?_ | refine q_nil ?_ | refine q_ix (fun _ => ?_) | (refine q_bin ?_ ?_ <;> intro _ <;> try (exfalso; omega)) | refine q_idx (c := 4) i rfl ?_ | refine q_late rfl rfl rfl rfl (fun w' hw' => r_load rfl rfl ((hp.ext hw') 1 _ rfl)) ?_ | refine q_late rfl rfl rfl rfl (fun w' hw' => r_load rfl rfl ((hp.ext hw') 0 _ rfl)) ?_ | refine q_late rfl rfl rfl rfl (fun w' hw' => r_loadN (vs := tokL ts[i]) rfl rfl rfl (hr.ext hw')) ?_ | fail)
    intro w3 hx3
    refine ops_tail rfl rfl ?_
    refine o_alloc (LH.start w3 (fun _ => False)) [.int .i64 0, .string "".toByteArray, .int .i64 0, .int .i64 0] (by kernel_rfl) rfl ?_
    intro b7 w4 hb7 hlb
    refine o_nil ⟨hx3.trans hlb.done, ?_⟩
    refine ops_tail rfl rfl ?_
    refine o_putN (us := tokL ts[i]) hlb rfl rfl rfl (by simp only [tokL, List.all_cons, List.all_nil, oneCell_str]; rfl) rfl (.here rfl rfl) ?_
    clear hlb
    intro w5 hlb
    refine o_nil ⟨hx3.trans hlb.done, ?_⟩
    refine ops_nil (hK _ _ ?_)
    clear hK K
    have hl := ((hl.ext hx3).join hlb).perm (List.Perm.swap _ _ _)
    have hr7 : Row w5 b7 0 (tokL ts[i]) := hl.rowL (vs := tokL ts[i]) 1 0 4 rfl
    clear hlb hx3 hx2 hp hr hT1
    obtain ⟨sb, hsb⟩ : ∃ sb, sb = seesB k wd (ts.drop i) := ⟨_, rfl⟩
    have hsb2 : sb = (decide (ts[i].kind = k) && (decide (wd = []) || decide (ts[i].text = wd))) := by
      rw [hsb, hdr]
      rfl
    have hki : ((ts[i].kind : Int) = (k : Int)) ↔ ts[i].kind = k := by omega
    refine wk_seq fun K hK => ?_
    refine wk_seq fun K2 hK2 => ?_
    refine wk_cut [] (fun _ : Unit => [(0, .pointer (some ⟨pb, 0, none⟩)), (6, .pointer (some ⟨b6, 0, none⟩)), (7, .pointer (some ⟨b7, 0, none⟩)), (47, .bool (!sb))]) (fun _ w' => w' = w5) ?_ ?_
    · refine wk_reg ?_
      by_cases hk : ts[i].kind = k
      · by_cases hw0 : wd = []
        · rw [decide_eq_true hk, decide_eq_true hw0] at hsb2
          repeat' (first | refine a_mov ?_ | refine a_asg ?_ | refine a_binN ?_ | refine a_notd ?_ | refine a_notb ?_ | refine a_nilc ?_ | refine a_fa ?_ | refine a_ext ?_ | refine a_lenv ?_ | refine a_lens ?_ | refine a_pick_t ?_ | refine a_pick_f ?_ | refine a_not ?_ | refine a_nilf ?_ | (refine a_bin ?_ ?_ <;> intro _ <;> try (exfalso; omega)) | refine a_ld hl ?_ | (refine a_st hl ?_; clear hl; intro _ hl) | refine a_ix (fun _ => ?_) | refine a_row hr7 ?_ | refine o_nesT (a := wd) (b := []) rfl rfl (by simp only [str_eq]; rfl) (fun h_ => absurd hw0 h_) (fun _ => ?_) | fail)
          rw [hsb2]
          exact o_nil ⟨(), ⟨rfl, rfl, rfl, rfl, trivial⟩, rfl, rfl⟩
        · by_cases hw1 : ts[i].text = wd
          · rw [decide_eq_true hk, decide_eq_false hw0, decide_eq_true hw1] at hsb2
            repeat' (first | refine a_mov ?_ | refine a_asg ?_ | refine a_binN ?_ | refine a_notd ?_ | refine a_notb ?_ | refine a_nilc ?_ | refine a_fa ?_ | refine a_ext ?_ | refine a_lenv ?_ | refine a_lens ?_ | refine a_pick_t ?_ | refine a_pick_f ?_ | refine a_not ?_ | refine a_nilf ?_ | (refine a_bin ?_ ?_ <;> intro _ <;> try (exfalso; omega)) | refine a_ld hl ?_ | (refine a_st hl ?_; clear hl; intro _ hl) | refine a_ix (fun _ => ?_) | refine a_row hr7 ?_ | refine o_nesT (a := ts[i].text) (b := wd) rfl rfl rfl (fun h_ => absurd hw1 h_) (fun _ => ?_) | refine o_nesT (a := wd) (b := []) rfl rfl (by simp only [str_eq]; rfl) (fun _ => ?_) (fun h_ => absurd h_ hw0) | fail)
            rw [hsb2]
            exact o_nil ⟨(), ⟨rfl, rfl, rfl, rfl, trivial⟩, rfl, rfl⟩
          · rw [decide_eq_true hk, decide_eq_false hw0, decide_eq_false hw1] at hsb2
            repeat' (first | refine a_mov ?_ | refine a_asg ?_ | refine a_binN ?_ | refine a_notd ?_ | refine a_notb ?_ | refine a_nilc ?_ | refine a_fa ?_ | refine a_ext ?_ | refine a_lenv ?_ | refine a_lens ?_ | refine a_pick_t ?_ | refine a_pick_f ?_ | refine a_not ?_ | refine a_nilf ?_ | (refine a_bin ?_ ?_ <;> intro _ <;> try (exfalso; omega)) | refine a_ld hl ?_ | (refine a_st hl ?_; clear hl; intro _ hl) | refine a_ix (fun _ => ?_) | refine a_row hr7 ?_ | refine o_nesT (a := ts[i].text) (b := wd) rfl rfl rfl (fun _ => ?_) (fun h_ => absurd h_ hw1) | refine o_nesT (a := wd) (b := []) rfl rfl (by simp only [str_eq]; rfl) (fun _ => ?_) (fun h_ => absurd h_ hw0) | fail)
            rw [hsb2]
            exact o_nil ⟨(), ⟨rfl, rfl, rfl, rfl, trivial⟩, rfl, rfl⟩
      · rw [decide_eq_false hk] at hsb2
        repeat' (first | refine a_mov ?_ | refine a_asg ?_ | refine a_binN ?_ | refine a_notd ?_ | refine a_notb ?_ | refine a_nilc ?_ | refine a_fa ?_ | refine a_ext ?_ | refine a_lenv ?_ | refine a_lens ?_ | refine a_pick_t ?_ | refine a_pick_f ?_ | refine a_not ?_ | refine a_nilf ?_ | (refine a_bin ?_ ?_ <;> intro _ <;> try (exfalso; omega)) | refine a_ld hl ?_ | (refine a_st hl ?_; clear hl; intro _ hl) | refine a_ix (fun _ => ?_) | refine a_row hr7 ?_ | fail)
        rw [hsb2]
        exact o_nil ⟨(), ⟨rfl, rfl, rfl, rfl, trivial⟩, rfl, rfl⟩
    rintro _ t w5 rfl
    refine hK2 _ _ ?_
    clear hK2 K2
    have htk : takeK en k wd (ts.drop i) = if sb = true then .ok ts[i] (ts.drop (i + 1)) else failR en (ts.drop i) := by
      rw [hsb, hdr]
      rfl
    cases sb
    · rw [if_neg (by decide)] at htk
      refine wk_cond_t rfl ?_
      refine wk_reg ?_
      repeat' (first | refine a_mov ?_ | refine a_asg ?_ | refine a_binN ?_ | refine a_notd ?_ | refine a_notb ?_ | refine a_nilc ?_ | refine a_fa ?_ | refine a_ext ?_ | refine a_lenv ?_ | refine a_lens ?_ | refine a_pick_t ?_ | refine a_pick_f ?_ | refine a_not ?_ | refine a_nilf ?_ | (refine a_bin ?_ ?_ <;> intro _ <;> try (exfalso; omega)) | refine a_ld hl ?_ | (refine a_st hl ?_; clear hl; intro _ hl) | refine a_ix (fun _ => ?_) | refine a_row hr7 ?_ | fail)
      refine o_build [.int .i64 5, .int .i64 (ts[i].pos : Int)] rfl rfl ?_
      refine a_mif (v := .agg #[.int .i64 5, .int .i64 (ts[i].pos : Int)]) ?_
      refine a_panic (v := faultV 5 (ts[i].pos : Int)) (retP_panic rfl ⟨5, ts[i].pos, ?_, rfl, hl.upd⟩)
      rw [htk, hdr]
      rfl
    · rw [if_pos rfl] at htk
      refine wk_cond_f rfl ?_
      refine wk_skip (hK _ _ ?_)
      clear hK K
      refine wk_seq fun K hK => ?_
      refine wk_reg ?_
      repeat' (first | refine a_mov ?_ | refine a_asg ?_ | refine a_binN ?_ | refine a_notd ?_ | refine a_notb ?_ | refine a_nilc ?_ | refine a_fa ?_ | refine a_ext ?_ | refine a_lenv ?_ | refine a_lens ?_ | refine a_pick_t ?_ | refine a_pick_f ?_ | refine a_not ?_ | refine a_nilf ?_ | (refine a_bin ?_ ?_ <;> intro _ <;> try (exfalso; omega)) | refine a_ld hl ?_ | (refine a_st hl ?_; clear hl; intro _ hl) | refine a_ix (fun _ => ?_) | fail)
      refine o_nil (hK _ _ ?_)
      clear hK K
      refine wk_seq fun K hK => ?_
      refine wk_reg ?_
      refine a_all (hl.rowL (vs := tokL ts[i]) 1 0 4 rfl) ?_
      refine o_putN (us := tokL ts[i]) hl rfl rfl rfl (by simp only [tokL, List.all_cons, List.all_nil, oneCell_str]; rfl) rfl (.there (.there (.here rfl rfl))) ?_
      clear hl
      intro w8 hl
      refine o_nil (hK _ _ ?_)
      refine wk_ret (retP_of (retQ_res [.agg (tokL ts[i]).toArray] rfl rfl ⟨by decide, ⟨⟨b6, 0, none⟩, rfl, run_loadVarN rfl rfl (hl.rowL (vs := tokL ts[i]) 2 0 4 rfl)⟩, trivial⟩ ?_) rfl)
      exact ⟨hlt, htk, rfl, hl.sub (List.cons_sublist_cons.2 (List.nil_sublist _))⟩
theorem check_calls {w : World} {b : Bool} {e a : Int} {k num : Int} {tx : Tx} :
    Calls Tryd.prog 41 #[.bool b, .int .i64 e, .agg #[.int .i64 k, str tx, .int .i64 num, .int .i64 a]] w (EndP (fun _ w' => b = false ∧ Ext w w') (fun ch w' => b = true ∧ ch = faultC e a ∧ Ext w w')) := by
  refine calls_ofP Tryd.func41 rfl Tryd.ntmps41 rfl ?_
  refine wk_seq fun K hK => ?_
  refine wk_reg ?_
  refine o_box (LH.start w (fun _ => False)) [.int .i64 k, str tx, .int .i64 num, .int .i64 a] rfl rfl rfl ?_
  intro b5 w1 hb5 hl
  have hr : Row w1 b5 0 [.int .i64 k, str tx, .int .i64 num, .int .i64 a] := hl.rowL (vs := [.int .i64 k, str tx, .int .i64 num, .int .i64 a]) 0 0 4 rfl
  refine o_nil (hK _ _ ?_)
  clear hK K
  refine wk_seq fun K hK => ?_
  refine wk_reg ?_
  refine a_mov ?_
  refine o_nil (hK _ _ ?_)
  clear hK K
  cases b
  · refine wk_cond_f rfl ?_
    refine wk_skip (retP_of (retQ_tmp0 rfl rfl ⟨rfl, hl.done⟩) rfl)
  · refine wk_cond_t rfl ?_
    refine wk_reg ?_
    repeat' (first | refine a_mov ?_ | refine a_asg ?_ | refine a_binN ?_ | refine a_notd ?_ | refine a_notb ?_ | refine a_nilc ?_ | refine a_fa ?_ | refine a_ext ?_ | refine a_lenv ?_ | refine a_lens ?_ | refine a_pick_t ?_ | refine a_pick_f ?_ | refine a_not ?_ | refine a_nilf ?_ | (refine a_bin ?_ ?_ <;> intro _ <;> try (exfalso; omega)) | refine a_ld hl ?_ | (refine a_st hl ?_; clear hl; intro _ hl) | refine a_ix (fun _ => ?_) | refine a_row hr ?_ | fail)
    refine o_build [.int .i64 e, .int .i64 a] rfl rfl ?_
    refine a_mif (v := .agg #[.int .i64 e, .int .i64 a]) ?_
    exact a_panic (v := faultV e a) (retP_panic rfl ⟨rfl, rfl, hl.done⟩)
end Go.Proofs
