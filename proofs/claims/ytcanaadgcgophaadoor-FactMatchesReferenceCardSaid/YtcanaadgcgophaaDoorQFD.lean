/-
  Facts: the reader's helpers (take, check, span, flag).
-/
import Derived.Test.YtcanaadgcgophaaDoorQFaMem
import Derived.Test.YtcanaadgcgophaaDoorQO
import Derived.Test.YtcanaadgcgophaaDoorQL2
import Derived.Test.YtcanaadgcgophaaDoorQFC
import Derived.Test.YtcanaadgcgophaaDoorQE
set_option linter.unusedVariables false
set_option linter.unusedSimpArgs false
set_option linter.unnecessarySimpa false
set_option maxRecDepth 10000
namespace Go.Proofs
open Go Go.Pd Go.Fac
open Go.Lexs (Tok)
attribute [local irreducible] OpsL W RetQ OpsQ OpsC
def TakeV (w : World) (pb : Nat) (tv : Value) (ts : List Tok) (en : Int) (i k : Nat) (wd : Tx) (v : Value) (w' : World) : Prop :=
  ∃ h : i < ts.length, takeK en k wd (ts.drop i) = .ok ts[i] (ts.drop (i + 1)) ∧ v = .agg (tokL ts[i]).toArray ∧ LH w (OneB pb) w' [psB pb tv (i + 1 : Nat) en]
def RdZ {α : Type} (w : World) (pb : Nat) (read : Rd α) (ch : List PanicEntry) (w' : World) : Prop := ∃ e a, read = .bad e a ∧ ch = faultC e a ∧ Upd (OneB pb) w w'
set_option maxHeartbeats 4000000 in
theorem take_calls {w : World} {pb : Nat} {tv : Value} {ts : List Tok} {i k : Nat} {en : Int} {wd : Tx} (hT : TK w pb tv ts) (hl : LH w (OneB pb) w [psB pb tv i en]) (hi : i ≤ ts.length) :
    Calls Tryd.prog 40 #[.pointer (some ⟨pb, 0, none⟩), .int .i64 (k : Int), str wd] w (EndP (TakeV w pb tv ts en i k wd) (RdZ w pb (takeK en k wd (ts.drop i)))) := by
  obtain ⟨ta, tc, rfl, hcap⟩ := hT.shape
  have hlen := hT.2.2
  refine calls_ofP Tryd.func40 rfl Tryd.ntmps40 rfl ?_
  refine wk_seq fun K hK => ?_
  refine wk_reg ?_
  refine o_alloc hl [.int .i64 0, .string "".toByteArray, .int .i64 0, .int .i64 0] (by kernel_rfl) rfl ?_
  clear hl
  intro b6 w1 hb6 hl
  replace hl := hl.perm (List.Perm.swap _ _ [])
  refine o_nil (hK _ _ ?_)
  clear hK K
  have hp : Row w1 pb 0 (psL (.slice ta ts.length tc) i en) := hl.rowL (vs := psL (.slice ta ts.length tc) i en) 0 0 3 rfl
  have hT1 := hT.upd hl.upd
  refine wk_seq fun K hK => ?_
  refine wk_seq fun K2 hK2 => ?_
  by_cases h : i = ts.length
  · subst h
    refine wk_np (wk_quiet (List.range 10) ?_)
    repeat' (first | refine q_mov ?_ | refine q_asg ?_ | refine q_fa ?_ | refine q_ext ?_ | refine q_binN ?_ | refine q_notd ?_ | refine q_notb ?_ | refine q_pick_t ?_ | refine q_pick_f ?_ | refine q_nilc ?_ | refine q_skip ?_ | refine q_lens ?_ | refine q_lenv ?_ | refine q_nil ?_ | refine q_ix (fun _ => ?_) | (refine q_bin ?_ ?_ <;> intro _ <;> try (exfalso; omega)) | refine q_row (fun w_ hw_ => hp.ext hw_) ?_)
    intro w2 hx2
    refine hK2 _ _ ?_
    clear hK2 K2
    refine wk_cond_t rfl ?_
    refine wk_reg ?_
    repeat' (first | refine a_mov ?_ | refine a_asg ?_ | refine a_binN ?_ | refine a_notd ?_ | refine a_notb ?_ | refine a_nilc ?_ | refine a_fa ?_ | refine a_ext ?_ | refine a_lenv ?_ | refine a_lens ?_ | refine a_pick_t ?_ | refine a_pick_f ?_ | refine a_not ?_ | refine a_nilf ?_ | (refine a_bin ?_ ?_ <;> intro _ <;> try (exfalso; omega)) | refine a_ld hl ?_ | (refine a_st hl ?_; clear hl; intro _ hl) | refine a_ix (fun _ => ?_) | refine a_row (hp.ext hx2) ?_ | fail)
    refine o_build [.int .i64 6, .int .i64 en] rfl rfl ?_
    refine a_mif (v := .agg #[.int .i64 6, .int .i64 en]) ?_
    refine a_panic (v := faultV 6 en) (retP_panic rfl ⟨6, en, ?_, rfl, (hl.ext hx2).upd⟩)
    rw [List.drop_length]
    rfl
  · have hlt : i < ts.length := by omega
    have hdr := List.drop_eq_getElem_cons hlt
    obtain ⟨b, o, rfl, hr⟩ := hT1.at hlt
    refine wk_np (wk_quiet (List.range 10) ?_)
    repeat' (first | refine q_mov ?_ | refine q_asg ?_ | refine q_fa ?_ | refine q_ext ?_ | refine q_binN ?_ | refine q_notd ?_ | refine q_notb ?_ | refine q_pick_t ?_ | refine q_pick_f ?_ | refine q_nilc ?_ | refine q_skip ?_ | refine q_lens ?_ | refine q_lenv ?_ | refine q_nil ?_ | refine q_ix (fun _ => ?_) | (refine q_bin ?_ ?_ <;> intro _ <;> try (exfalso; omega)) | refine q_row (fun w_ hw_ => hp.ext hw_) ?_)
    intro w2 hx2
    refine hK2 _ _ ?_
    clear hK2 K2
    refine wk_cond_f rfl ?_
    refine wk_skip (hK _ _ ?_)
    clear hK K
    replace hl := hl.ext hx2
    replace hp := hp.ext hx2
    replace hr := hr.ext hx2
    refine wk_seq fun K hK => ?_
    refine wk_np (wk_draw (List.range 10) [3, 7, 9] [10, 11] (fun w' => Ext w2 w') (fun w' => Ext w2 w') rfl (by kernel_rfl) (by intro _ _ _ _ h; exact h) (fun _ h => Upd.of_heap h) (fun _ h => h) ?_)
    repeat' (first | refine q_mov ?_ | refine q_asg ?_ | refine q_fa ?_ | refine q_ext ?_ | refine q_binN ?_ | refine q_notd ?_ | refine q_notb ?_ | refine q_pick_t ?_ | refine q_pick_f ?_ | refine q_nilc ?_ | refine q_skip ?_ | refine q_lens ?_ | refine q_lenv ?_ | refine q_nil ?_ | refine q_ix (fun _ => ?_) | (refine q_bin ?_ ?_ <;> intro _ <;> try (exfalso; omega)) | refine q_idx (c := 4) i rfl ?_ | refine q_late rfl rfl rfl rfl (fun w' hw' => r_load rfl rfl ((hp.ext hw') 1 _ rfl)) ?_ | refine q_late rfl rfl rfl rfl (fun w' hw' => r_load rfl rfl ((hp.ext hw') 0 _ rfl)) ?_ | refine q_late rfl rfl rfl rfl (fun w' hw' => r_loadN (vs := tokL ts[i]) rfl rfl rfl (hr.ext hw')) ?_ | fail)
    intro w3 hx3
    refine ops_tail rfl rfl ?_
    refine o_alloc (LH.start w3 (fun _ => False)) [.int .i64 0, .string "".toByteArray, .int .i64 0, .int .i64 0] (by kernel_rfl) rfl ?_
    intro b7 w4 hb7 hlb
    refine o_nil ⟨hx3.trans hlb.done, ?_⟩
    refine ops_tail rfl rfl ?_
    refine o_putN (us := tokL ts[i]) hlb rfl rfl rfl (by simp only [tokL, List.all_cons, List.all_nil, oneCell_str]; rfl) rfl (.here rfl rfl) ?_
    clear hlb
    intro w5 hlb
    refine o_nil ⟨hx3.trans hlb.done, ?_⟩
    refine ops_nil (hK _ _ ?_)
    clear hK K
    have hl := ((hl.ext hx3).join hlb).perm (List.Perm.swap _ _ _)
    have hr7 : Row w5 b7 0 (tokL ts[i]) := hl.rowL (vs := tokL ts[i]) 1 0 4 rfl
    clear hlb hx3 hx2 hp hr hT1
    obtain ⟨sb, hsb⟩ : ∃ sb, sb = seesB k wd (ts.drop i) := ⟨_, rfl⟩
    have hsb2 : sb = (decide (ts[i].kind = k) && (decide (wd = []) || decide (ts[i].text = wd))) := by
      rw [hsb, hdr]
      rfl
    have hki : ((ts[i].kind : Int) = (k : Int)) ↔ ts[i].kind = k := by omega
    refine wk_seq fun K hK => ?_
    refine wk_seq fun K2 hK2 => ?_
    refine wk_cut [] (fun _ : Unit => [(0, .pointer (some ⟨pb, 0, none⟩)), (6, .pointer (some ⟨b6, 0, none⟩)), (7, .pointer (some ⟨b7, 0, none⟩)), (47, .bool (!sb))]) (fun _ w' => w' = w5) ?_ ?_
    · refine wk_reg ?_
      by_cases hk : ts[i].kind = k
      · by_cases hw0 : wd = []
        · rw [decide_eq_true hk, decide_eq_true hw0] at hsb2
          repeat' (first | refine a_mov ?_ | refine a_asg ?_ | refine a_binN ?_ | refine a_notd ?_ | refine a_notb ?_ | refine a_nilc ?_ | refine a_fa ?_ | refine a_ext ?_ | refine a_lenv ?_ | refine a_lens ?_ | refine a_pick_t ?_ | refine a_pick_f ?_ | refine a_not ?_ | refine a_nilf ?_ | (refine a_bin ?_ ?_ <;> intro _ <;> try (exfalso; omega)) | refine a_ld hl ?_ | (refine a_st hl ?_; clear hl; intro _ hl) | refine a_ix (fun _ => ?_) | refine a_row hr7 ?_ | refine o_nesT (a := wd) (b := []) rfl rfl (by simp only [str_eq]; rfl) (fun h_ => absurd hw0 h_) (fun _ => ?_) | fail)
          rw [hsb2]
          exact o_nil ⟨(), ⟨rfl, rfl, rfl, rfl, trivial⟩, rfl, rfl⟩
        · by_cases hw1 : ts[i].text = wd
          · rw [decide_eq_true hk, decide_eq_false hw0, decide_eq_true hw1] at hsb2
            repeat' (first | refine a_mov ?_ | refine a_asg ?_ | refine a_binN ?_ | refine a_notd ?_ | refine a_notb ?_ | refine a_nilc ?_ | refine a_fa ?_ | refine a_ext ?_ | refine a_lenv ?_ | refine a_lens ?_ | refine a_pick_t ?_ | refine a_pick_f ?_ | refine a_not ?_ | refine a_nilf ?_ | (refine a_bin ?_ ?_ <;> intro _ <;> try (exfalso; omega)) | refine a_ld hl ?_ | (refine a_st hl ?_; clear hl; intro _ hl) | refine a_ix (fun _ => ?_) | refine a_row hr7 ?_ | refine o_nesT (a := ts[i].text) (b := wd) rfl rfl rfl (fun h_ => absurd hw1 h_) (fun _ => ?_) | refine o_nesT (a := wd) (b := []) rfl rfl (by simp only [str_eq]; rfl) (fun _ => ?_) (fun h_ => absurd h_ hw0) | fail)
            rw [hsb2]
            exact o_nil ⟨(), ⟨rfl, rfl, rfl, rfl, trivial⟩, rfl, rfl⟩
          · rw [decide_eq_true hk, decide_eq_false hw0, decide_eq_false hw1] at hsb2
            repeat' (first | refine a_mov ?_ | refine a_asg ?_ | refine a_binN ?_ | refine a_notd ?_ | refine a_notb ?_ | refine a_nilc ?_ | refine a_fa ?_ | refine a_ext ?_ | refine a_lenv ?_ | refine a_lens ?_ | refine a_pick_t ?_ | refine a_pick_f ?_ | refine a_not ?_ | refine a_nilf ?_ | (refine a_bin ?_ ?_ <;> intro _ <;> try (exfalso; omega)) | refine a_ld hl ?_ | (refine a_st hl ?_; clear hl; intro _ hl) | refine a_ix (fun _ => ?_) | refine a_row hr7 ?_ | refine o_nesT (a := ts[i].text) (b := wd) rfl rfl rfl (fun _ => ?_) (fun h_ => absurd h_ hw1) | refine o_nesT (a := wd) (b := []) rfl rfl (by simp only [str_eq]; rfl) (fun _ => ?_) (fun h_ => absurd h_ hw0) | fail)
            rw [hsb2]
            exact o_nil ⟨(), ⟨rfl, rfl, rfl, rfl, trivial⟩, rfl, rfl⟩
      · rw [decide_eq_false hk] at hsb2
        repeat' (first | refine a_mov ?_ | refine a_asg ?_ | refine a_binN ?_ | refine a_notd ?_ | refine a_notb ?_ | refine a_nilc ?_ | refine a_fa ?_ | refine a_ext ?_ | refine a_lenv ?_ | refine a_lens ?_ | refine a_pick_t ?_ | refine a_pick_f ?_ | refine a_not ?_ | refine a_nilf ?_ | (refine a_bin ?_ ?_ <;> intro _ <;> try (exfalso; omega)) | refine a_ld hl ?_ | (refine a_st hl ?_; clear hl; intro _ hl) | refine a_ix (fun _ => ?_) | refine a_row hr7 ?_ | fail)
        rw [hsb2]
        exact o_nil ⟨(), ⟨rfl, rfl, rfl, rfl, trivial⟩, rfl, rfl⟩
    rintro _ t w5 rfl
    refine hK2 _ _ ?_
    clear hK2 K2
    have htk : takeK en k wd (ts.drop i) = if sb = true then .ok ts[i] (ts.drop (i + 1)) else failR en (ts.drop i) := by
      rw [hsb, hdr]
      rfl
    cases sb
    · rw [if_neg (by decide)] at htk
      refine wk_cond_t rfl ?_
      refine wk_reg ?_
      repeat' (first | refine a_mov ?_ | refine a_asg ?_ | refine a_binN ?_ | refine a_notd ?_ | refine a_notb ?_ | refine a_nilc ?_ | refine a_fa ?_ | refine a_ext ?_ | refine a_lenv ?_ | refine a_lens ?_ | refine a_pick_t ?_ | refine a_pick_f ?_ | refine a_not ?_ | refine a_nilf ?_ | (refine a_bin ?_ ?_ <;> intro _ <;> try (exfalso; omega)) | refine a_ld hl ?_ | (refine a_st hl ?_; clear hl; intro _ hl) | refine a_ix (fun _ => ?_) | refine a_row hr7 ?_ | fail)
      refine o_build [.int .i64 5, .int .i64 (ts[i].pos : Int)] rfl rfl ?_
      refine a_mif (v := .agg #[.int .i64 5, .int .i64 (ts[i].pos : Int)]) ?_
      refine a_panic (v := faultV 5 (ts[i].pos : Int)) (retP_panic rfl ⟨5, ts[i].pos, ?_, rfl, hl.upd⟩)
      rw [htk, hdr]
      rfl
    · rw [if_pos rfl] at htk
      refine wk_cond_f rfl ?_
      refine wk_skip (hK _ _ ?_)
      clear hK K
      refine wk_seq fun K hK => ?_
      refine wk_reg ?_
      repeat' (first | refine a_mov ?_ | refine a_asg ?_ | refine a_binN ?_ | refine a_notd ?_ | refine a_notb ?_ | refine a_nilc ?_ | refine a_fa ?_ | refine a_ext ?_ | refine a_lenv ?_ | refine a_lens ?_ | refine a_pick_t ?_ | refine a_pick_f ?_ | refine a_not ?_ | refine a_nilf ?_ | (refine a_bin ?_ ?_ <;> intro _ <;> try (exfalso; omega)) | refine a_ld hl ?_ | (refine a_st hl ?_; clear hl; intro _ hl) | refine a_ix (fun _ => ?_) | fail)
      refine o_nil (hK _ _ ?_)
      clear hK K
      refine wk_seq fun K hK => ?_
      refine wk_reg ?_
      refine a_all (hl.rowL (vs := tokL ts[i]) 1 0 4 rfl) ?_
      refine o_putN (us := tokL ts[i]) hl rfl rfl rfl (by simp only [tokL, List.all_cons, List.all_nil, oneCell_str]; rfl) rfl (.there (.there (.here rfl rfl))) ?_
      clear hl
      intro w8 hl
      refine o_nil (hK _ _ ?_)
      refine wk_ret (retP_of (retQ_res [.agg (tokL ts[i]).toArray] rfl rfl ⟨by decide, ⟨⟨b6, 0, none⟩, rfl, run_loadVarN rfl rfl (hl.rowL (vs := tokL ts[i]) 2 0 4 rfl)⟩, trivial⟩ ?_) rfl)
      exact ⟨hlt, htk, rfl, hl.sub (List.cons_sublist_cons.2 (List.nil_sublist _))⟩
theorem check_calls {w : World} {b : Bool} {e a : Int} {k num : Int} {tx : Tx} :
    Calls Tryd.prog 41 #[.bool b, .int .i64 e, .agg #[.int .i64 k, str tx, .int .i64 num, .int .i64 a]] w (EndP (fun _ w' => b = false ∧ Ext w w') (fun ch w' => b = true ∧ ch = faultC e a ∧ Ext w w')) := by
  refine calls_ofP Tryd.func41 rfl Tryd.ntmps41 rfl ?_
  refine wk_seq fun K hK => ?_
  refine wk_reg ?_
  refine o_box (LH.start w (fun _ => False)) [.int .i64 k, str tx, .int .i64 num, .int .i64 a] rfl rfl rfl ?_
  intro b5 w1 hb5 hl
  have hr : Row w1 b5 0 [.int .i64 k, str tx, .int .i64 num, .int .i64 a] := hl.rowL (vs := [.int .i64 k, str tx, .int .i64 num, .int .i64 a]) 0 0 4 rfl
  refine o_nil (hK _ _ ?_)
  clear hK K
  refine wk_seq fun K hK => ?_
  refine wk_reg ?_
  refine a_mov ?_
  refine o_nil (hK _ _ ?_)
  clear hK K
  cases b
  · refine wk_cond_f rfl ?_
    refine wk_skip (retP_of (retQ_tmp0 rfl rfl ⟨rfl, hl.done⟩) rfl)
  · refine wk_cond_t rfl ?_
    refine wk_reg ?_
    repeat' (first | refine a_mov ?_ | refine a_asg ?_ | refine a_binN ?_ | refine a_notd ?_ | refine a_notb ?_ | refine a_nilc ?_ | refine a_fa ?_ | refine a_ext ?_ | refine a_lenv ?_ | refine a_lens ?_ | refine a_pick_t ?_ | refine a_pick_f ?_ | refine a_not ?_ | refine a_nilf ?_ | (refine a_bin ?_ ?_ <;> intro _ <;> try (exfalso; omega)) | refine a_ld hl ?_ | (refine a_st hl ?_; clear hl; intro _ hl) | refine a_ix (fun _ => ?_) | refine a_row hr ?_ | fail)
    refine o_build [.int .i64 e, .int .i64 a] rfl rfl ?_
    refine a_mif (v := .agg #[.int .i64 e, .int .i64 a]) ?_
    exact a_panic (v := faultV e a) (retP_panic rfl ⟨rfl, rfl, hl.done⟩)
end Go.Proofs

set_option linter.unusedVariables false
set_option linter.unusedSimpArgs false
set_option linter.unnecessarySimpa false
set_option maxRecDepth 10000
namespace Go.Proofs
open Go Go.Pd Go.Fac
open Go.Lexs (Tok)
attribute [local irreducible] OpsL W RetQ OpsQ OpsC
def SpanV (w : World) (pb : Nat) (tv : Value) (ts : List Tok) (en : Int) (i : Nat) (read : List Tok → Rd (Int × Int)) (v : Value) (w' : World) : Prop :=
  ∃ p j, read (ts.drop i) = .ok p (ts.drop j) ∧ i ≤ j ∧ j ≤ ts.length ∧ v = .tuple #[.int .i64 p.1, .int .i64 p.2] ∧ LH w (OneB pb) w' [psB pb tv j en]
set_option maxHeartbeats 4000000 in
theorem span_calls {w : World} {pb : Nat} {tv : Value} {ts : List Tok} {i : Nat} {en : Int} (hT : TK w pb tv ts) (hl : LH w (OneB pb) w [psB pb tv i en]) (hi : i ≤ ts.length) :
    Calls Tryd.prog 39 #[.pointer (some ⟨pb, 0, none⟩)] w (EndP (SpanV w pb tv ts en i (spanP en)) (RdZ w pb (spanP en (ts.drop i)))) := by
  have hlen := hT.2.2
  refine calls_ofP Tryd.func39 rfl Tryd.ntmps39 rfl ?_
  refine wk_seq fun K hK => ?_
  refine wk_reg ?_
  refine a_asg ?_
  refine a_asg ?_
  refine o_nil (hK _ _ ?_)
  clear hK K
  refine wk_seq fun K hK => ?_
  refine wk_reg ?_
  refine a_mov ?_
  refine a_fnP (take_calls (k := 2) (wd := []) hT hl hi) ?_ ?_ rfl (fun _ => rfl) (by simp only [str_nil]; rfl)
  rotate_left
  · rintro ch w1 ⟨e, a, hr, rfl, hu⟩
    refine retP_panic rfl ⟨e, a, ?_, rfl, hu⟩
    unfold spanP
    rw [hr]
    rfl
  rintro _ w1 ⟨h1, hr1, rfl, hl1⟩
  replace hl := hl.swap hl1
  clear hl1
  generalize ht1 : ts[i] = t1 at hr1
  refine o_alloc hl [.int .i64 0, .string "".toByteArray, .int .i64 0, .int .i64 0] (by kernel_rfl) rfl ?_
  clear hl
  intro b4 w2 hb hl
  refine o_putN (us := tokL t1) hl rfl rfl rfl (by simp only [tokL, List.all_cons, List.all_nil, oneCell_str]; rfl) rfl (.here rfl rfl) ?_
  clear hl
  intro w3 hl
  replace hl := hl.perm (List.Perm.swap _ _ _)
  refine o_nil (hK _ _ ?_)
  clear hK K
  have hra : Row w3 b4 0 (tokL t1) := hl.rowL (vs := tokL t1) 1 0 4 rfl
  have hsp1 : spanP en (ts.drop i) = if 1000000 < t1.num then .bad 10 t1.pos else (takeK en 1 kTo (ts.drop (i + 1))).bind fun _ r => (takeK en 2 [] r).bind fun hi r => if 1000000 < hi.num ∨ hi.num < t1.num then .bad 10 hi.pos else .ok ((t1.num : Int), (hi.num : Int)) r := by
    unfold spanP
    rw [hr1]
    rfl
  refine wk_seq fun K hK => ?_
  refine wk_reg ?_
  by_cases hbig : 1000000 < t1.num
  · repeat' (first | refine a_mov ?_ | refine a_asg ?_ | refine a_binN ?_ | refine a_notd ?_ | refine a_notb ?_ | refine a_nilc ?_ | refine a_fa ?_ | refine a_ext ?_ | refine a_lenv ?_ | refine a_lens ?_ | refine a_pick_t ?_ | refine a_pick_f ?_ | refine a_not ?_ | refine a_nilf ?_ | (refine a_bin ?_ ?_ <;> intro _ <;> try (exfalso; omega)) | refine a_ld hl ?_ | (refine a_st hl ?_; clear hl; intro _ hl) | refine a_ix (fun _ => ?_) | refine a_row hra ?_ | fail)
    refine a_all hra ?_
    refine a_fnP (check_calls (b := true) (e := 10) (a := t1.pos) (k := t1.kind) (num := t1.num) (tx := t1.text)) ?_ ?_
    · rintro v w4 ⟨h, -⟩
      cases h
    · rintro ch w4 ⟨-, rfl, hx⟩
      refine retP_panic rfl ⟨10, t1.pos, ?_, rfl, (hl.ext hx).upd⟩
      rw [hsp1, if_pos hbig]
  rw [if_neg hbig] at hsp1
  repeat' (first | refine a_mov ?_ | refine a_asg ?_ | refine a_binN ?_ | refine a_notd ?_ | refine a_notb ?_ | refine a_nilc ?_ | refine a_fa ?_ | refine a_ext ?_ | refine a_lenv ?_ | refine a_lens ?_ | refine a_pick_t ?_ | refine a_pick_f ?_ | refine a_not ?_ | refine a_nilf ?_ | (refine a_bin ?_ ?_ <;> intro _ <;> try (exfalso; omega)) | refine a_ld hl ?_ | (refine a_st hl ?_; clear hl; intro _ hl) | refine a_ix (fun _ => ?_) | refine a_row hra ?_ | fail)
  refine a_all hra ?_
  refine a_fnP (check_calls (b := false) (e := 10) (a := t1.pos) (k := t1.kind) (num := t1.num) (tx := t1.text)) ?_ ?_
  rotate_left
  · rintro ch w4 ⟨h, -⟩
    cases h
  rintro v w4 ⟨-, hx4⟩
  replace hl := hl.ext hx4
  clear hra
  refine o_nil (hK _ _ ?_)
  clear hK K
  refine wk_seq fun K hK => ?_
  refine wk_reg ?_
  refine a_mov ?_
  refine a_fnP (take_calls (k := 1) (wd := kTo) (hT.upd hl.upd) hl.one h1) ?_ ?_ rfl (fun _ => rfl) (by simp only [kTo, str_eq]; rfl)
  rotate_left
  · rintro ch w5 ⟨e, a, hr, rfl, hu⟩
    refine retP_panic rfl ⟨e, a, ?_, rfl, hl.upd.trans hu fun k hk hM => hM⟩
    rw [hsp1, hr]
    rfl
  rintro _ w5 ⟨h2, hr2, rfl, hl2⟩
  replace hl := hl.swap hl2
  clear hl2
  rw [hr2] at hsp1
  refine o_nil (hK _ _ ?_)
  clear hK K
  refine wk_seq fun K hK => ?_
  refine wk_reg ?_
  refine a_mov ?_
  refine a_fnP (take_calls (k := 2) (wd := []) (hT.upd hl.upd) hl.one h2) ?_ ?_ rfl (fun _ => rfl) (by simp only [str_nil]; rfl)
  rotate_left
  · rintro ch w6 ⟨e, a, hr, rfl, hu⟩
    refine retP_panic rfl ⟨e, a, ?_, rfl, hl.upd.trans hu fun k hk hM => hM⟩
    rw [hsp1]
    simp only [Rd.bind]
    rw [hr]
  rintro _ w6 ⟨h3, hr3, rfl, hl3⟩
  replace hl := hl.swap hl3
  clear hl3
  simp only [Rd.bind] at hsp1
  rw [hr3] at hsp1
  simp only at hsp1
  generalize ht2 : ts[i + 1 + 1] = t2 at hr3 hsp1
  refine o_alloc hl [.int .i64 0, .string "".toByteArray, .int .i64 0, .int .i64 0] (by kernel_rfl) rfl ?_
  clear hl
  intro b5 w7 hb hl
  refine o_putN (us := tokL t2) hl rfl rfl rfl (by simp only [tokL, List.all_cons, List.all_nil, oneCell_str]; rfl) rfl (.here rfl rfl) ?_
  clear hl
  intro w8 hl
  replace hl := hl.perm (List.Perm.swap _ _ _)
  refine o_nil (hK _ _ ?_)
  clear hK K
  have hra : Row w8 b4 0 (tokL t1) := hl.rowL (vs := tokL t1) 2 0 4 rfl
  have hrb : Row w8 b5 0 (tokL t2) := hl.rowL (vs := tokL t2) 1 0 4 rfl
  refine wk_seq fun K hK => ?_
  refine wk_reg ?_
  by_cases hbad : 1000000 < t2.num ∨ t2.num < t1.num
  · have hpan : ∀ (w9 : World) (ch : List PanicEntry), (true = true ∧ ch = faultC 10 t2.pos ∧ Ext w8 w9) → RdZ w pb (spanP en (ts.drop i)) ch w9 := fun w9 ch ⟨_, h, hx⟩ => ⟨10, t2.pos, by rw [hsp1, if_pos hbad], h, (hl.ext hx).upd⟩
    by_cases hb1 : 1000000 < t2.num
    · repeat' (first | refine a_mov ?_ | refine a_asg ?_ | refine a_binN ?_ | refine a_notd ?_ | refine a_notb ?_ | refine a_nilc ?_ | refine a_fa ?_ | refine a_ext ?_ | refine a_lenv ?_ | refine a_lens ?_ | refine a_pick_t ?_ | refine a_pick_f ?_ | refine a_not ?_ | refine a_nilf ?_ | (refine a_bin ?_ ?_ <;> intro _ <;> try (exfalso; omega)) | refine a_ld hl ?_ | (refine a_st hl ?_; clear hl; intro _ hl) | refine a_ix (fun _ => ?_) | refine a_row hra ?_ | refine a_row hrb ?_ | fail)
      refine a_all hrb ?_
      refine a_fnP (check_calls (b := true) (e := 10) (a := t2.pos) (k := t2.kind) (num := t2.num) (tx := t2.text)) ?_ ?_
      · rintro v w9 ⟨h, -⟩
        cases h
      · exact fun ch w9 h => retP_panic rfl (hpan w9 ch h)
    · have hb2 := hbad.resolve_left hb1
      repeat' (first | refine a_mov ?_ | refine a_asg ?_ | refine a_binN ?_ | refine a_notd ?_ | refine a_notb ?_ | refine a_nilc ?_ | refine a_fa ?_ | refine a_ext ?_ | refine a_lenv ?_ | refine a_lens ?_ | refine a_pick_t ?_ | refine a_pick_f ?_ | refine a_not ?_ | refine a_nilf ?_ | (refine a_bin ?_ ?_ <;> intro _ <;> try (exfalso; omega)) | refine a_ld hl ?_ | (refine a_st hl ?_; clear hl; intro _ hl) | refine a_ix (fun _ => ?_) | refine a_row hra ?_ | refine a_row hrb ?_ | fail)
      refine a_all hrb ?_
      refine a_fnP (check_calls (b := true) (e := 10) (a := t2.pos) (k := t2.kind) (num := t2.num) (tx := t2.text)) ?_ ?_
      · rintro v w9 ⟨h, -⟩
        cases h
      · exact fun ch w9 h => retP_panic rfl (hpan w9 ch h)
  · rw [if_neg hbad] at hsp1
    repeat' (first | refine a_mov ?_ | refine a_asg ?_ | refine a_binN ?_ | refine a_notd ?_ | refine a_notb ?_ | refine a_nilc ?_ | refine a_fa ?_ | refine a_ext ?_ | refine a_lenv ?_ | refine a_lens ?_ | refine a_pick_t ?_ | refine a_pick_f ?_ | refine a_not ?_ | refine a_nilf ?_ | (refine a_bin ?_ ?_ <;> intro _ <;> try (exfalso; omega)) | refine a_ld hl ?_ | (refine a_st hl ?_; clear hl; intro _ hl) | refine a_ix (fun _ => ?_) | refine a_row hra ?_ | refine a_row hrb ?_ | fail)
    refine a_all hrb ?_
    refine a_fnP (check_calls (b := false) (e := 10) (a := t2.pos) (k := t2.kind) (num := t2.num) (tx := t2.text)) ?_ ?_
    rotate_left
    · rintro ch w9 ⟨h, -⟩
      cases h
    rintro v w9 ⟨-, hx9⟩
    replace hl := hl.ext hx9
    replace hra := hra.ext hx9
    replace hrb := hrb.ext hx9
    refine o_nil (hK _ _ ?_)
    clear hK K
    refine wk_seq fun K hK => ?_
    refine wk_np (wk_quiet (List.range 6) ?_)
    repeat' (first | refine q_mov ?_ | refine q_asg ?_ | refine q_fa ?_ | refine q_ext ?_ | refine q_binN ?_ | refine q_notd ?_ | refine q_notb ?_ | refine q_pick_t ?_ | refine q_pick_f ?_ | refine q_nilc ?_ | refine q_skip ?_ | refine q_lens ?_ | refine q_lenv ?_ | refine q_nil ?_ | refine q_ix (fun _ => ?_) | (refine q_bin ?_ ?_ <;> intro _ <;> try (exfalso; omega)) | refine q_row (fun w_ hw_ => hra.ext hw_) ?_ | refine q_row (fun w_ hw_ => hrb.ext hw_) ?_ | fail)
    intro w10 hx10
    refine hK _ _ ?_
    refine wk_ret (retP_of (retQ_tmp2 Tryd.results39 (by decide) (by decide) rfl (by conv => lhs; whnf) (by conv => lhs; whnf) ?_) rfl)
    exact ⟨((t1.num : Int), (t2.num : Int)), i + 1 + 1 + 1, hsp1, by omega, h3, rfl, (hl.ext hx10).sub (List.cons_sublist_cons.2 (List.nil_sublist _))⟩
theorem flag_calls {w : World} {pb : Nat} {tv : Value} {ts : List Tok} {i : Nat} {en : Int} (hl : LH w (OneB pb) w [psB pb tv i en]) (hi : i ≤ ts.length) :
    Calls Tryd.prog 38 #[.pointer (some ⟨pb, 0, none⟩)] w (EndP (SpanV w pb tv ts en i (Rd.ok (0, 1))) (RdZ w pb (Rd.ok ((0 : Int), (1 : Int)) (ts.drop i)))) := by
  refine calls_ofP Tryd.func38 rfl Tryd.ntmps38 rfl ?_
  refine wk_seq fun K hK => ?_
  refine wk_reg ?_
  refine a_asg ?_
  refine a_asg ?_
  refine o_nil (hK _ _ ?_)
  clear hK K
  refine wk_seq fun K hK => ?_
  refine wk_reg ?_
  refine a_asg ?_
  refine a_asg ?_
  refine o_nil (hK _ _ ?_)
  refine wk_ret (retP_of (retQ_tmp2 Tryd.results38 (by decide) (by decide) rfl (by conv => lhs; whnf) (by conv => lhs; whnf) ?_) rfl)
  exact ⟨(0, 1), i, rfl, Nat.le_refl _, hi, rfl, hl⟩
end Go.Proofs

set_option linter.unusedVariables false
set_option linter.unusedSimpArgs false
set_option linter.unnecessarySimpa false
set_option maxRecDepth 10000
namespace Go.Pd
open Go
section
variable {P : Program} {r : Option Nat} {n : Nat} {ops : Array Oper} {K : St → World → Prop} {X : List PanicEntry → St → World → Prop} {l : List Oper} {s : St} {w : World} {k : Nat} {ty : TypeId} {p : String} {af : Array Edge} {g : Option (Nat × Bool)}
theorem o_eqnil {xt yt : TypeId} {x : Operand} {ms : Array (String × TypeId)} (hk : OpsL P r n ops K X l (s.set k (.bool true)) w) (hx : rd n s x = .nilIface) (hu : P.underlying xt = some (.interface ms)) (hw : Region.wanted ⟨some k, .binOp .eql xt x (.const .nilIface) yt, ty, p, af, g⟩ (yieldedE ops n s) = true := by rfl) : OpsL P r n ops K X (⟨some k, .binOp .eql xt x (.const .nilIface) yt, ty, p, af, g⟩ :: l) s w := by
  refine o_val (w' := w) hw ?_ hk
  rw [Oper.semAt_eq _ _ _ (fun c e => by cases e)]
  have h1 : (eqGuard .eql xt x (.const .nilIface) .nilIface .nilIface).run P w = .ok () w := by
    cases x <;> rfl
  have h2 : (binOp .eql xt .nilIface .nilIface).run P w = .ok (.bool true) w := by
    show (do pure (Value.bool (← Op.equal xt .nilIface .nilIface)) : Sem Value).run P w = _
    rw [sem_bind (run_equalNil hu w)]
    rfl
  simp only [execOp, hx, rd_const]
  have h3 : (do eqGuard .eql xt x (.const .nilIface) .nilIface .nilIface; binOp .eql xt .nilIface .nilIface : Sem Value).run P w = .ok (.bool true) w := by
    rw [sem_bind h1]; exact h2
  rw [sem_bind h3]
  rfl
theorem o_eqiface {xt yt : TypeId} {x : Operand} {ms : Array (String × TypeId)} {t : TypeId} {v : Value} (hk : OpsL P r n ops K X l (s.set k (.bool false)) w) (hx : rd n s x = .iface t v) (hu : P.underlying xt = some (.interface ms)) (hw : Region.wanted ⟨some k, .binOp .eql xt x (.const .nilIface) yt, ty, p, af, g⟩ (yieldedE ops n s) = true := by rfl) : OpsL P r n ops K X (⟨some k, .binOp .eql xt x (.const .nilIface) yt, ty, p, af, g⟩ :: l) s w := by
  refine o_val (w' := w) hw ?_ hk
  rw [Oper.semAt_eq _ _ _ (fun c e => by cases e)]
  have h0 : (Op.equal xt (.iface t v) .nilIface).run P w = .ok false w := by
    have h9 : Op.equal xt (.iface t v) .nilIface = Op.equalIn (9999 + 1) xt (.iface t v) .nilIface := rfl
    rw [h9, Op.equalIn, sem_bind (run_underlying' hu w)]
    rfl
  have h2 : (binOp .eql xt (.iface t v) .nilIface).run P w = .ok (.bool false) w := by
    show (do pure (Value.bool (← Op.equal xt (.iface t v) .nilIface)) : Sem Value).run P w = _
    rw [sem_bind h0]
    rfl
  simp only [execOp, hx, rd_const]
  have h3 : (do eqGuard .eql xt x (.const .nilIface) (.iface t v) .nilIface; binOp .eql xt (.iface t v) .nilIface : Sem Value).run P w = .ok (.bool false) w := by
    rw [sem_bind (a := ()) (w' := w) rfl]; exact h2
  rw [sem_bind h3]
  rfl
end
end Go.Pd
namespace Go.Proofs
open Go Go.Pd Go.Fac
open Go.Lexs (Tok)
attribute [local irreducible] OpsL W RetQ OpsQ OpsC
abbrev resK (b2 b3 b4 : Nat) : Nat → Prop := fun b => b ∈ [b4, b3, b2]
def resB (T : TypeId) (b2 b3 b4 : Nat) (dv : Value) (e a : Int) : List (Nat × Obj) := [(b4, .cells [.int .i64 a].toArray 3 (0, 0)), (b3, .cells [.int .i64 e].toArray 29 (0, 0)), (b2, .cells [dv].toArray T (0, 0))]
theorem caught_calm {w : World} {cv : Value} {b3 b4 : Nat} : Calls Tryd.prog 36 #[.nilIface, cv, .pointer (some ⟨b3, 0, none⟩), .pointer (some ⟨b4, 0, none⟩)] w (fun e w' => ∃ v, e = .returned v ∧ Ext w w') := by
  refine calls_of Tryd.func36 rfl Tryd.ntmps36 rfl ?_
  refine wk_seq fun K hK => ?_
  refine wk_seq fun K2 hK2 => ?_
  refine wk_reg ?_
  refine a_mov ?_
  refine o_eqnil ?_ rfl rfl
  refine o_nil (hK2 _ _ ?_)
  refine wk_cond_t rfl ?_
  exact wk_ret (retQ_tmp0 rfl rfl (.refl _ _))
set_option maxHeartbeats 2000000 in
theorem caught_fault {T : TypeId} {w : World} {cv dv : Value} {b2 b3 b4 : Nat} {e0 a0 e a : Int} {f : FuncId} (hen : ∀ w, (callFunc f #[.pointer (some ⟨b2, 0, none⟩)]).run Tryd.prog w = .ok (.enter f #[.pointer (some ⟨b2, 0, none⟩)]) w) (hcv : cv = .func (.func f) #[] #[.pointer (some ⟨b2, 0, none⟩)]) (hl : LH w (resK b2 b3 b4) w (resB T b2 b3 b4 dv e0 a0))
    (hc : ∀ (w1 : World) (p : Nat × Obj), LH w (resK b2 b3 b4) w1 (p :: resB T b2 b3 b4 dv e0 a0) → Calls Tryd.prog f #[.pointer (some ⟨b2, 0, none⟩)] w1 (fun x w' => ∃ v, x = .returned v ∧ LH w (resK b2 b3 b4) w' (p :: resB T b2 b3 b4 (.slice none 0 0) e0 a0))) :
    Calls Tryd.prog 36 #[faultV e a, cv, .pointer (some ⟨b3, 0, none⟩), .pointer (some ⟨b4, 0, none⟩)] w (fun x w' => ∃ v, x = .returned v ∧ LH w (resK b2 b3 b4) w' (resB T b2 b3 b4 (.slice none 0 0) e a)) := by
  subst hcv
  refine calls_of Tryd.func36 rfl Tryd.ntmps36 rfl ?_
  refine wk_seq fun K hK => ?_
  refine wk_seq fun K2 hK2 => ?_
  refine wk_reg ?_
  refine a_mov ?_
  refine o_eqiface ?_ rfl rfl
  refine o_nil (hK2 _ _ ?_)
  clear hK2 K2
  refine wk_cond_f rfl ?_
  refine wk_skip (hK _ _ ?_)
  clear hK K
  refine wk_seq fun K hK => ?_
  refine wk_reg ?_
  refine a_mov ?_
  refine a_tas ?_ rfl
  refine o_alloc hl [.int .i64 0, .int .i64 0] (by kernel_rfl) rfl ?_
  clear hl
  intro b8 w1 hb8 hl
  refine o_putN (us := [.int .i64 e, .int .i64 a]) hl rfl rfl rfl rfl rfl (.here rfl rfl) ?_
  clear hl
  intro w2 hl
  refine o_nil (hK _ _ ?_)
  clear hK K
  refine wk_seq fun K hK => ?_
  refine wk_reg ?_
  refine a_mov ?_
  refine a_fc #[] #[.pointer (some ⟨b2, 0, none⟩)] #[.pointer (some ⟨b2, 0, none⟩)] rfl (hc w2 _ hl) ?_ (hen := hen)
  rintro v w3 hl
  refine o_nil (hK _ _ ?_)
  clear hK K
  have hr : Row w3 b8 0 [.int .i64 e, .int .i64 a] := hl.rowL (vs := [.int .i64 e, .int .i64 a]) 0 0 2 rfl
  refine wk_draw [0, 1, 2, 3, 4, 5, 6, 8] [3, 5] [7, 9] (fun w' => To w3 w' w3.heap) (fun w' => w'.heap[b8]? = some (Obj.cells [.int .i64 e, .int .i64 a].toArray 99 (0, 0))) rfl (by kernel_rfl) (fun _ _ _ _ h => by first | exact h | (simp only [BlockK, NoGoto, RetQ] at h)) (fun _ h => h) (fun w' h => by rw [h.1]; exact hl.get 0 rfl) ?_
  repeat' (first | refine q_mov ?_ | refine q_asg ?_ | refine q_fa ?_ | refine q_ext ?_ | refine q_binN ?_ | refine q_notd ?_ | refine q_notb ?_ | refine q_pick_t ?_ | refine q_pick_f ?_ | refine q_nilc ?_ | refine q_skip ?_ | refine q_lens ?_ | refine q_lenv ?_ | refine q_nil ?_ | refine q_ix (fun _ => ?_) | (refine q_bin ?_ ?_ <;> intro _ <;> try (exfalso; omega)) | refine q_late rfl rfl rfl rfl (fun w' hw' => r_load rfl rfl (cell_of_block hw' rfl)) ?_)
  intro w4 hw4
  replace hl := hl.heap hw4
  refine ops_tail rfl rfl ?_
  refine o_put1 (b := b3) (o := 0) (v := .int .i64 e) hl rfl rfl rfl ⟨rfl, rfl⟩ rfl (.there (.there (.here rfl rfl))) ?_
  clear hl
  intro w5 hl
  refine o_nil ⟨hl.get 0 rfl, ?_⟩
  refine ops_tail rfl rfl ?_
  refine o_put1 (b := b4) (o := 0) (v := .int .i64 a) hl rfl rfl rfl ⟨rfl, rfl⟩ rfl (.there (.here rfl rfl)) ?_
  clear hl
  intro w6 hl
  refine o_nil ⟨hl.get 0 rfl, ?_⟩
  refine ops_nil (retQ_tmp0 rfl rfl ?_)
  exact hl.sub (List.sublist_cons_self _ _)
theorem clearD_calls {w w1 : World} {b2 b3 b4 : Nat} {dv : Value} {e a : Int} {p : Nat × Obj} (hl : LH w (resK b2 b3 b4) w1 (p :: resB 24 b2 b3 b4 dv e a)) : Calls Tryd.prog 37 #[.pointer (some ⟨b2, 0, none⟩)] w1 (fun x w' => ∃ v, x = .returned v ∧ LH w (resK b2 b3 b4) w' (p :: resB 24 b2 b3 b4 (.slice none 0 0) e a)) := by
  refine calls_of Tryd.func37 rfl Tryd.ntmps37 rfl ?_
  refine wk_reg ?_
  refine o_build [.slice none 0 0] rfl rfl ?_
  refine o_putN (us := [.slice none 0 0]) hl rfl rfl rfl rfl rfl (.there (.there (.there (.here rfl rfl)))) ?_
  clear hl
  intro w2 hl
  exact o_nil (retQ_tmp0 rfl rfl hl)
theorem clearC_calls {w w1 : World} {b2 b3 b4 : Nat} {dv : Value} {e a : Int} {p : Nat × Obj} (hl : LH w (resK b2 b3 b4) w1 (p :: resB 26 b2 b3 b4 dv e a)) : Calls Tryd.prog 45 #[.pointer (some ⟨b2, 0, none⟩)] w1 (fun x w' => ∃ v, x = .returned v ∧ LH w (resK b2 b3 b4) w' (p :: resB 26 b2 b3 b4 (.slice none 0 0) e a)) := by
  refine calls_of Tryd.func45 rfl Tryd.ntmps45 rfl ?_
  refine wk_reg ?_
  refine o_put1 (b := b2) (o := 0) (v := .slice none 0 0) hl rfl rfl rfl ⟨rfl, rfl⟩ rfl (.there (.there (.there (.here rfl rfl)))) ?_
  clear hl
  intro w2 hl
  exact o_nil (retQ_tmp0 rfl rfl hl)
theorem recD_calm {w : World} {b2 b3 b4 : Nat} : CallsDIn (FR none) 0 Tryd.prog 35 #[.pointer (some ⟨b2, 0, none⟩), .pointer (some ⟨b3, 0, none⟩), .pointer (some ⟨b4, 0, none⟩)] .returning w (fun e u' w' => (∃ x, e = .returned x) ∧ u' = .returning ∧ Ext w w') := by
  refine callsD_rec1 (v := .nilIface) (R := fun w' => Ext w w') Tryd.func35 rfl (Nat.le_of_ble_eq_true rfl) rfl (fun c₀ cs hc => .inr ⟨?_, rfl, rfl⟩) ?_
  · simp [recoverD, hc]
  refine o_mf [] [.pointer (some ⟨b2, 0, none⟩)] rfl rfl rfl ?_
  refine a_fn (caught_calm (cv := .func (.func 37) #[] #[.pointer (some ⟨b2, 0, none⟩)]) (b3 := b3) (b4 := b4)) ?_
  rintro v w1 hx
  exact o_nil ⟨rfl, hx⟩
theorem recD_fault {w : World} {b2 b3 b4 : Nat} {dv : Value} {e0 a0 e a : Int} (hl : LH w (resK b2 b3 b4) w (resB 24 b2 b3 b4 dv e0 a0)) : CallsDIn (FR none) 0 Tryd.prog 35 #[.pointer (some ⟨b2, 0, none⟩), .pointer (some ⟨b3, 0, none⟩), .pointer (some ⟨b4, 0, none⟩)] (.panicking (faultC e a)) w (fun x u' w' => (∃ y, x = .returned y) ∧ u' = .panicking [{ v := faultV e a, recovered := true }] ∧ LH w (resK b2 b3 b4) w' (resB 24 b2 b3 b4 (.slice none 0 0) e a)) := by
  refine callsD_rec1 (v := faultV e a) (R := fun w' => LH w (resK b2 b3 b4) w' (resB 24 b2 b3 b4 (.slice none 0 0) e a)) Tryd.func35 rfl (Nat.le_of_ble_eq_true rfl) rfl (fun c₀ cs hc => .inl ?_) ?_
  · simp [recoverD, hc, faultC]
  refine o_mf [] [.pointer (some ⟨b2, 0, none⟩)] rfl rfl rfl ?_
  refine a_fn (caught_fault (fun _ => rfl) rfl hl fun w1 p h => clearD_calls h) ?_
  rintro v w1 hl1
  exact o_nil ⟨rfl, hl1⟩
theorem recC_calm {w : World} {b2 b3 b4 : Nat} : CallsDIn (FR none) 0 Tryd.prog 44 #[.pointer (some ⟨b2, 0, none⟩), .pointer (some ⟨b3, 0, none⟩), .pointer (some ⟨b4, 0, none⟩)] .returning w (fun e u' w' => (∃ x, e = .returned x) ∧ u' = .returning ∧ Ext w w') := by
  refine callsD_rec1 (v := .nilIface) (R := fun w' => Ext w w') Tryd.func44 rfl (Nat.le_of_ble_eq_true rfl) rfl (fun c₀ cs hc => .inr ⟨?_, rfl, rfl⟩) ?_
  · simp [recoverD, hc]
  refine o_mf [] [.pointer (some ⟨b2, 0, none⟩)] rfl rfl rfl ?_
  refine a_fn (caught_calm (cv := .func (.func 45) #[] #[.pointer (some ⟨b2, 0, none⟩)]) (b3 := b3) (b4 := b4)) ?_
  rintro v w1 hx
  exact o_nil ⟨rfl, hx⟩
theorem recC_fault {w : World} {b2 b3 b4 : Nat} {dv : Value} {e0 a0 e a : Int} (hl : LH w (resK b2 b3 b4) w (resB 26 b2 b3 b4 dv e0 a0)) : CallsDIn (FR none) 0 Tryd.prog 44 #[.pointer (some ⟨b2, 0, none⟩), .pointer (some ⟨b3, 0, none⟩), .pointer (some ⟨b4, 0, none⟩)] (.panicking (faultC e a)) w (fun x u' w' => (∃ y, x = .returned y) ∧ u' = .panicking [{ v := faultV e a, recovered := true }] ∧ LH w (resK b2 b3 b4) w' (resB 26 b2 b3 b4 (.slice none 0 0) e a)) := by
  refine callsD_rec1 (v := faultV e a) (R := fun w' => LH w (resK b2 b3 b4) w' (resB 26 b2 b3 b4 (.slice none 0 0) e a)) Tryd.func44 rfl (Nat.le_of_ble_eq_true rfl) rfl (fun c₀ cs hc => .inl ?_) ?_
  · simp [recoverD, hc, faultC]
  refine o_mf [] [.pointer (some ⟨b2, 0, none⟩)] rfl rfl rfl ?_
  refine a_fn (caught_fault (fun _ => rfl) rfl hl fun w1 p h => clearC_calls h) ?_
  rintro v w1 hl1
  exact o_nil ⟨rfl, hl1⟩
end Go.Proofs

set_option linter.unusedVariables false
set_option linter.unusedSimpArgs false
set_option linter.unnecessarySimpa false
set_option maxRecDepth 10000
namespace Go.Pd
open Go Go.Proofs
section
variable {P : Program} {r : Option Nat} {n : Nat} {ops : Array Oper} {K : St → World → Prop} {X : List PanicEntry → St → World → Prop} {l : List Oper} {s : St} {w : World} {d : Nat} {ty : TypeId} {p : String} {af : Array Edge} {g : Option (Nat × Bool)}
def CallE (P : Program) (fv : Value) (args : Array Value) (w : World) (R : Value → World → Prop) (Z : List PanicEntry → World → Prop) : Prop :=
  ∃ f fi ca, fv = .func (.func f) fi ca ∧ (∀ w, (callFunc f (fi ++ args ++ ca)).run P w = .ok (.enter f (fi ++ args ++ ca)) w) ∧ Calls P f (fi ++ args ++ ca) w (EndP R Z)
theorem a_fwP {x : Operand} {xs : Array Operand} {ats : Array TypeId} {fv : Value} {args : Array Value} {R : Value → World → Prop} {Z : List PanicEntry → World → Prop} (hc : CallE P fv args w R Z) (hk : ∀ v w', R v w' → OpsL P r n ops K X l (s.set d v) w') (hz : ∀ ch w', Z ch w' → X ch s w') (hw : Region.wanted ⟨some d, .call ⟨.value x, xs, ats⟩, ty, p, af, g⟩ (yieldedE ops n s) = true := by rfl)
    (hx : rd n s x = fv := by rfl) (hargs : xs.toList.map (rd n s) = args.toList := by rfl) : OpsL P r n ops K X (⟨some d, .call ⟨.value x, xs, ats⟩, ty, p, af, g⟩ :: l) s w := by
  refine o_wanted hw ?_
  unfold OpW
  rw [Oper.semAt_eq _ _ _ (fun c e => by cases e)]
  have hargs' : xs.map (rd n s) = args := Array.ext' (by simpa using hargs)
  simp only [execOp, resolve, hargs', hx]
  obtain ⟨f, fi, ca, rfl, h2, h3⟩ := hc
  rw [sem_bind (a := { target := .fn (.func f) ca, args := fi ++ args }) (w' := w) rfl]
  simp only [invoke]
  rw [h2 w]
  refine Calls.mono h3 ?_
  rintro e w' (⟨v, rfl, hR⟩ | ⟨c, rfl, hZ⟩)
  · exact hk v w' hR
  · exact hz c w' hZ
end
theorem key_i64 {P : Program} {kt : TypeId} (hu : P.underlying kt = some (.int .i64)) : Key P kt (Value.int .i64) := by
  refine ⟨fun e a w => ?_, fun a b w => ?_, fun a b u hu' x hx => ?_, fun a => ?_, ⟨_, hu⟩⟩
  · show (Instr.checkKey e (9999 + 1) kt _).run P w = _
    unfold Instr.checkKey
    rw [sem_bind (run_underlying' hu w)]
    rfl
  · exact (Sc.int hu).run 9999 w
  · rw [hu] at hu'
    cases hu'
    simp only [Instr.sameNow, if_true, Option.some.injEq] at hx
    rw [← hx]
    by_cases h : a = b <;> simp [h]
  · show (a == a) = true
    simp
end Go.Pd
namespace Go.Proofs
open Go Go.Pd Go.Fac Go.Fo
open Go.Lexs (Tok lex)
attribute [local irreducible] OpsL W RetQ OpsQ OpsC
theorem off_new {w : World} {sv : Value} {k : Nat} {vs : List Value} {pb : Nat} (h : Sl w sv k vs) (hk : 0 < k) (hne : vs ≠ []) (hpb : w.heap.size ≤ pb) : Off (OneB pb) sv := by
  rcases h with ⟨-, h⟩ | ⟨a, m, c, rfl, h2, h3, h4, h5⟩
  · exact absurd h hne
  · intro hm
    cases vs with
    | nil => exact hne rfl
    | cons v vs =>
      have := lt_of_cell (h5 0 v rfl)
      rw [List.mem_singleton.1 hm] at this
      omega
theorem off_res {T : TypeId} {w w0 : World} {M : Nat → Prop} {sv dv : Value} {ts : List Tok} {b2 b3 b4 : Nat} {e a : Int} (h : Sl w sv 4 (toksL ts)) (hl : LH w0 M w (resB T b2 b3 b4 dv e a)) (hne : toksL ts ≠ []) : Off (resK b2 b3 b4) sv := by
  cases ts with
  | nil => exact absurd rfl hne
  | cons t ts =>
    rcases h with ⟨-, h⟩ | ⟨ad, m, c, rfl, h2, h3, h4, h5⟩
    · exact absurd h hne
    · intro hm
      have h3 : (toksL (t :: ts))[3]? = some (.int .i64 (t.pos : Int)) := rfl
      simp only [List.mem_cons, List.not_mem_nil, or_false] at hm
      rcases hm with hm | hm | hm
      · rw [hm] at h5
        have := row_block (hl.get 0 rfl) h5 h3
        simp at this
      · rw [hm] at h5
        have := row_block (hl.get 1 rfl) h5 h3
        simp at this
      · rw [hm] at h5
        have := row_block (hl.get 2 rfl) h5 h3
        simp at this
def recDD (b2 b3 b4 : Nat) : Deferred := { target := .fn (.func 35) #[.pointer (some ⟨b2, 0, none⟩), .pointer (some ⟨b3, 0, none⟩), .pointer (some ⟨b4, 0, none⟩)], args := #[] ++ #[] }
theorem parseD_ret {s : St} {w : World} {R : Value → World → Prop} {b2 b3 b4 : Nat} (hd : s.d = [recDD b2 b3 b4]) (vs : List Value) (h : ∀ w', Ext w w' → ResOK Tryd.prog 94 s w' [.cell 2 24, .cell 3 29, .cell 4 3] vs ∧ R (tupleOf vs) w') : RetP Tryd.prog Tryd.f11 94 R (fun _ _ => False) .ret s w := by
  intro a hf
  rw [hd]
  refine leaves_rec (by simp) (fun _ => rfl) ?_
  refine CallsDIn.mono recD_calm ?_
  rintro e u' w' ⟨he, rfl, hx⟩
  obtain ⟨h1, h2⟩ := h w' hx
  exact ⟨he, rfl, _, run_results rfl hf h1, .inl ⟨_, rfl, h2⟩⟩
theorem parseD_panic {s : St} {w : World} {R : Value → World → Prop} {b2 b3 b4 : Nat} (hd : s.d = [recDD b2 b3 b4]) {dv : Value} {e0 a0 e a : Int} (hl : LH w (resK b2 b3 b4) w (resB 24 b2 b3 b4 dv e0 a0)) (h2 : s.t 2 = .pointer (some ⟨b2, 0, none⟩)) (h3 : s.t 3 = .pointer (some ⟨b3, 0, none⟩)) (h4 : s.t 4 = .pointer (some ⟨b4, 0, none⟩)) (h : ∀ w', Upd (resK b2 b3 b4) w w' → R (.tuple #[.agg #[.slice none 0 0], .int .i64 e, .int .i64 a]) w') : RetP Tryd.prog Tryd.f11 94 R (fun _ _ => False) (.panic (faultC e a)) s w := by
  intro t hf
  rw [hd]
  refine leaves_rec (by simp) (fun _ => rfl) ?_
  refine CallsDIn.mono (recD_fault hl) ?_
  rintro x u' w' ⟨he, rfl, hl'⟩
  refine ⟨he, rfl, _, run_results (vs := [.agg #[.slice none 0 0], .int .i64 e, .int .i64 a]) (rs := [.cell 2 24, .cell 3 29, .cell 4 3]) rfl hf ?_, .inl ⟨_, rfl, h w' hl'.upd⟩⟩
  refine ⟨by decide, ⟨_, h2, ?_⟩, by decide, ⟨_, h3, run_loadVar1 rfl (hl'.cell 1 rfl rfl)⟩, by decide, ⟨_, h4, run_loadVar1 rfl (hl'.cell 0 rfl rfl)⟩, trivial⟩
  first
    | exact run_loadVarN rfl rfl (hl'.rowL (vs := [.slice none 0 0]) 2 0 1 rfl)
    | exact run_loadVar1 rfl (hl'.cell 2 rfl rfl)
def recCC (b2 b3 b4 : Nat) : Deferred := { target := .fn (.func 44) #[.pointer (some ⟨b2, 0, none⟩), .pointer (some ⟨b3, 0, none⟩), .pointer (some ⟨b4, 0, none⟩)], args := #[] ++ #[] }
theorem parseC_ret {s : St} {w : World} {R : Value → World → Prop} {b2 b3 b4 : Nat} (hd : s.d = [recCC b2 b3 b4]) (vs : List Value) (h : ∀ w', Ext w w' → ResOK Tryd.prog 123 s w' [.cell 4 26, .cell 5 29, .cell 6 3] vs ∧ R (tupleOf vs) w') : RetP Tryd.prog Tryd.f13 123 R (fun _ _ => False) .ret s w := by
  intro a hf
  rw [hd]
  refine leaves_rec (by simp) (fun _ => rfl) ?_
  refine CallsDIn.mono recC_calm ?_
  rintro e u' w' ⟨he, rfl, hx⟩
  obtain ⟨h1, h2⟩ := h w' hx
  exact ⟨he, rfl, _, run_results rfl hf h1, .inl ⟨_, rfl, h2⟩⟩
theorem parseC_panic {s : St} {w : World} {R : Value → World → Prop} {b2 b3 b4 : Nat} (hd : s.d = [recCC b2 b3 b4]) {dv : Value} {e0 a0 e a : Int} (hl : LH w (resK b2 b3 b4) w (resB 26 b2 b3 b4 dv e0 a0)) (h2 : s.t 4 = .pointer (some ⟨b2, 0, none⟩)) (h3 : s.t 5 = .pointer (some ⟨b3, 0, none⟩)) (h4 : s.t 6 = .pointer (some ⟨b4, 0, none⟩)) (h : ∀ w', Upd (resK b2 b3 b4) w w' → R (.tuple #[.slice none 0 0, .int .i64 e, .int .i64 a]) w') : RetP Tryd.prog Tryd.f13 123 R (fun _ _ => False) (.panic (faultC e a)) s w := by
  intro t hf
  rw [hd]
  refine leaves_rec (by simp) (fun _ => rfl) ?_
  refine CallsDIn.mono (recC_fault hl) ?_
  rintro x u' w' ⟨he, rfl, hl'⟩
  refine ⟨he, rfl, _, run_results (vs := [.slice none 0 0, .int .i64 e, .int .i64 a]) (rs := [.cell 4 26, .cell 5 29, .cell 6 3]) rfl hf ?_, .inl ⟨_, rfl, h w' hl'.upd⟩⟩
  refine ⟨by decide, ⟨_, h2, ?_⟩, by decide, ⟨_, h3, run_loadVar1 rfl (hl'.cell 1 rfl rfl)⟩, by decide, ⟨_, h4, run_loadVar1 rfl (hl'.cell 0 rfl rfl)⟩, trivial⟩
  first
    | exact run_loadVarN rfl rfl (hl'.rowL (vs := [.slice none 0 0]) 2 0 1 rfl)
    | exact run_loadVar1 rfl (hl'.cell 2 rfl rfl)
end Go.Proofs
