/-
  The reference: few (with sizes), Size, Depth, node, Valid.
-/
import Derived.Test.YtebaoilkpedppaaGreatDoorQStRd
import Derived.Test.YtebaoilkpedppaaGreatDoorQStAa
import Derived.Test.YtebaoilkpedppaaGreatDoorQStY
import Derived.Test.YtebaoilkpedppaaGreatDoorQNn
set_option linter.unusedVariables false
set_option linter.unusedSimpArgs false
set_option linter.unnecessarySimpa false
set_option maxRecDepth 10000
namespace Go.Sta
open Go.Lexs
theorem nm_name (t : Tx) : Go.Fin.Nm t = nameB t := by
  rw [Bool.eq_iff_iff]
  constructor
  · intro h
    unfold Go.Fin.Nm at h
    rw [Bool.and_eq_true, decide_eq_true_eq] at h
    obtain ⟨h1, h2, h3, h4⟩ := h
    cases t with
    | nil => simp at h2
    | cons c l =>
      have hl : isLet c = true := by
        rw [isLet_eq]
        have h5 : cls c = 3 := h4
        by_cases h6 : isLetter c = true
        · exact h6
        · exfalso
          unfold cls at h5
          rw [if_neg h6] at h5
          revert h5
          (repeat' split) <;> simp_all
      rw [List.all_cons, Bool.and_eq_true] at h1
      simp only [nameB, hl, Bool.true_and, Bool.and_eq_true, decide_eq_true_eq]
      refine ⟨?_, by simp at h3; omega⟩
      have h2 := h1.2
      rw [List.all_eq_true] at h2 ⊢
      exact fun d hd => isWord_name (h2 d hd)
  · intro h
    obtain ⟨h1, h2, h3⟩ := nameB_ok h
    unfold Go.Fin.Nm
    rw [Bool.and_eq_true, decide_eq_true_eq]
    refine ⟨h1, ?_, h3, h2⟩
    cases t with
    | nil => cases h
    | cons c l => simp
theorem depL_take_succ {l : List Sn} {k : Nat} (hk : k < l.length) : depL (l.take (k + 1)) = max (depL (l.take k)) (dep l[k]) := by
  induction l generalizing k with
  | nil => simp at hk
  | cons a l ih =>
    cases k with
    | zero => simp [depL]
    | succ k =>
      simp only [List.take_succ_cons, depL, List.getElem_cons_succ]
      rw [ih (by simpa using hk)]; omega
def nodeA (s : Sn) : Bool := decide (1 ≤ s.op ∧ s.op ≤ 9) && (if named s.op then nameB s.name else decide (s.name = []))
def nodeC (s : Sn) : Bool := decide (s.day = 0 ∨ (s.op = 3 ∧ 0 < s.day ∧ s.day ≤ 1000000)) && (if many s.op then decide (2 ≤ s.kids.length) else decide (s.kids = []))
theorem nodeB_AC (s : Sn) : nodeB s = (nodeA s && nodeC s) := by
  unfold nodeB nodeA nodeC
  simp only [Bool.and_assoc]
end Go.Sta
namespace Go.Proofs
open Go Go.Pd Go.Sta
attribute [local irreducible] OpsL W RetQ OpsQ OpsC
theorem small_dep : ∀ {d : Nat} {s : Sn}, Small d s → dep s ≤ d
  | d + 1, s, h => by
    rw [dep_eq]
    have := depL_le (l := s.kids) (d := d) fun k hk => small_dep (h.2.2 k hk)
    omega
theorem Few2_calls {s : Sn} {w : World} {kv : Value} (hk : KA w s.kids kv) : Calls Tryz.prog 24 #[.agg (snL s kv).toArray] w (fun e w' => ∃ v, e = .returned v ∧ ∃ b, v = .bool b ∧ (b = true → Small 30 s) ∧ Ext w w') := by
  obtain ⟨ka, kc, rfl, -⟩ := hk.shape
  refine calls_of Tryz.func24 rfl Tryz.ntmps24 rfl ?_
  refine wk_seq fun K hK => ?_
  refine wk_reg ?_
  refine o_box (LH.start w (fun _ => False)) (snL s (.slice ka s.kids.length kc)) rfl rfl rfl ?_
  intro b2 w1 hb2 hl
  have hr : Row w1 b2 0 (snL s (.slice ka s.kids.length kc)) := hl.rowL (vs := snL s (.slice ka s.kids.length kc)) 0 0 4 rfl
  have hx1 := hl.done
  clear hl
  refine a_asg ?_
  refine o_nil (hK _ _ ?_)
  clear hK K
  refine wk_seq fun K hK => ?_
  refine wk_reg ?_
  refine a_all hr ?_
  refine a_fn (small_calls 30 s w1 (.slice ka s.kids.length kc) (by decide) (hk.ext hx1)) ?_
  rintro _ w2 ⟨b, rfl, hb, hx2⟩
  cases b
  · repeat' (first | refine a_mov ?_ | refine a_asg ?_ | refine a_binN ?_ | refine a_notd ?_ | refine a_notb ?_ | refine a_nilc ?_ | refine a_fa ?_ | refine a_ext ?_ | refine a_lenv ?_ | refine a_lens ?_ | refine a_pick_t ?_ | refine a_pick_f ?_ | refine a_not ?_ | refine a_nilf ?_ | (refine a_bin ?_ ?_ <;> intro _ <;> try (exfalso; omega)) | refine a_ld hl ?_ | (refine a_st hl ?_; clear hl; intro _ hl) | refine a_ix (fun _ => ?_) | fail)
    refine o_nil (hK _ _ ?_)
    clear hK K
    refine wk_ret (retQ_tmp1 Tryz.results24 (by decide) rfl (by conv => lhs; whnf) ?_)
    exact ⟨false, rfl, (fun h => nomatch h), hx1.trans hx2⟩
  · repeat' (first | refine a_mov ?_ | refine a_asg ?_ | refine a_binN ?_ | refine a_notd ?_ | refine a_notb ?_ | refine a_nilc ?_ | refine a_fa ?_ | refine a_ext ?_ | refine a_lenv ?_ | refine a_lens ?_ | refine a_pick_t ?_ | refine a_pick_f ?_ | refine a_not ?_ | refine a_nilf ?_ | (refine a_bin ?_ ?_ <;> intro _ <;> try (exfalso; omega)) | refine a_ld hl ?_ | (refine a_st hl ?_; clear hl; intro _ hl) | refine a_ix (fun _ => ?_) | fail)
    refine a_all (hr.ext hx2) ?_
    refine a_fn (count_calls 30 s w2 (.slice ka s.kids.length kc) (by decide) (hb rfl) ((hk.ext hx1).ext hx2)) ?_
    rintro _ w3 ⟨c, rfl, h1, h2, hx3⟩
    repeat' (first | refine a_mov ?_ | refine a_asg ?_ | refine a_binN ?_ | refine a_notd ?_ | refine a_notb ?_ | refine a_nilc ?_ | refine a_fa ?_ | refine a_ext ?_ | refine a_lenv ?_ | refine a_lens ?_ | refine a_pick_t ?_ | refine a_pick_f ?_ | refine a_not ?_ | refine a_nilf ?_ | (refine a_bin ?_ ?_ <;> intro _ <;> try (exfalso; omega)) | refine a_ld hl ?_ | (refine a_st hl ?_; clear hl; intro _ hl) | refine a_ix (fun _ => ?_) | fail)
    · refine o_nil (hK _ _ ?_)
      clear hK K
      refine wk_ret (retQ_tmp1 Tryz.results24 (by decide) rfl (by conv => lhs; whnf) ?_)
      exact ⟨true, rfl, (fun _ => hb rfl), (hx1.trans hx2).trans hx3⟩
    · refine o_nil (hK _ _ ?_)
      clear hK K
      refine wk_ret (retQ_tmp1 Tryz.results24 (by decide) rfl (by conv => lhs; whnf) ?_)
      exact ⟨false, rfl, (fun h => nomatch h), (hx1.trans hx2).trans hx3⟩
theorem few2_calls {s : Sn} {w : World} {kv : Value} {ha la : Option Addr} {hm hc lm lc : Nat} (hk : KA w s.kids kv) : Calls Tryz.prog 9 #[.agg (snL s kv).toArray, .slice ha hm hc, .slice la lm lc] w (fun e w' => ∃ v, e = .returned v ∧ ∃ b, v = .bool b ∧ (b = true → Small 30 s ∧ hm ≤ 30 ∧ lm ≤ 30) ∧ Ext w w') := by
  obtain ⟨ka, kc, rfl, -⟩ := hk.shape
  refine calls_of Tryz.func9 rfl Tryz.ntmps9 rfl ?_
  refine wk_seq fun K hK => ?_
  refine wk_reg ?_
  refine o_box (LH.start w (fun _ => False)) (snL s (.slice ka s.kids.length kc)) rfl rfl rfl ?_
  intro b2 w1 hb2 hl
  have hr : Row w1 b2 0 (snL s (.slice ka s.kids.length kc)) := hl.rowL (vs := snL s (.slice ka s.kids.length kc)) 0 0 4 rfl
  have hx1 := hl.done
  clear hl
  refine a_asg ?_
  refine o_nil (hK _ _ ?_)
  clear hK K
  refine wk_seq fun K hK => ?_
  refine wk_reg ?_
  refine a_all hr ?_
  refine a_fn (Few2_calls (hk.ext hx1)) ?_
  rintro _ w2 ⟨b, rfl, hsm, hx2⟩
  cases b
  · repeat' (first | refine a_mov ?_ | refine a_asg ?_ | refine a_binN ?_ | refine a_notd ?_ | refine a_notb ?_ | refine a_nilc ?_ | refine a_fa ?_ | refine a_ext ?_ | refine a_lenv ?_ | refine a_lens ?_ | refine a_pick_t ?_ | refine a_pick_f ?_ | refine a_not ?_ | refine a_nilf ?_ | (refine a_bin ?_ ?_ <;> intro _ <;> try (exfalso; omega)) | refine a_ld hl ?_ | (refine a_st hl ?_; clear hl; intro _ hl) | refine a_ix (fun _ => ?_) | fail)
    refine o_nil (hK _ _ ?_)
    clear hK K
    refine wk_ret (retQ_tmp1 Tryz.results9 (by decide) rfl (by conv => lhs; whnf) ?_)
    exact ⟨false, rfl, (fun h => nomatch h), hx1.trans hx2⟩
  · repeat' (first | refine a_mov ?_ | refine a_asg ?_ | refine a_binN ?_ | refine a_notd ?_ | refine a_notb ?_ | refine a_nilc ?_ | refine a_fa ?_ | refine a_ext ?_ | refine a_lenv ?_ | refine a_lens ?_ | refine a_pick_t ?_ | refine a_pick_f ?_ | refine a_not ?_ | refine a_nilf ?_ | (refine a_bin ?_ ?_ <;> intro _ <;> try (exfalso; omega)) | refine a_ld hl ?_ | (refine a_st hl ?_; clear hl; intro _ hl) | refine a_ix (fun _ => ?_) | fail)
    · refine o_nil (hK _ _ ?_)
      clear hK K
      refine wk_ret (retQ_tmp1 Tryz.results9 (by decide) rfl (by conv => lhs; whnf) ?_)
      exact ⟨true, rfl, (fun _ => ⟨hsm rfl, by omega, by omega⟩), hx1.trans hx2⟩
    all_goals
      refine o_nil (hK _ _ ?_)
      clear hK K
      refine wk_ret (retQ_tmp1 Tryz.results9 (by decide) rfl (by conv => lhs; whnf) ?_)
      exact ⟨false, rfl, (fun h => nomatch h), hx1.trans hx2⟩
set_option maxHeartbeats 2000000 in
theorem size_calls : ∀ (s : Sn) (w : World) (kv : Value), dep s ≤ 1000000 → s.kids.length ≤ 140737488351232 → fitS s → KA w s.kids kv → Calls Tryz.prog 39 #[.agg (snL s kv).toArray] w (fun e w' => ∃ v, e = .returned v ∧ ∃ c : Int, v = .int .i64 c ∧ 1 ≤ c ∧ c ≤ 300 * (dep s : Int) ∧ (c ≤ 200 → c = cnt s) ∧ (200 < c → 200 < cnt s) ∧ Ext w w') := Sn.ind fun s ih => by
  intro w kv hd hlen hfit hk
  obtain ⟨ka, kc, rfl, -⟩ := hk.shape
  have hkf := ((fitS_eq s).1 hfit).2.2
  have hde := dep_eq s
  have hce := cnt_eq s
  refine calls_of Tryz.func39 rfl Tryz.ntmps39 rfl ?_
  refine wk_seq fun K hK => ?_
  refine wk_reg ?_
  refine o_box (LH.start w (fun _ => False)) (snL s (.slice ka s.kids.length kc)) rfl rfl rfl ?_
  intro b2 w1 hb2 hl
  have hr : Row w1 b2 0 (snL s (.slice ka s.kids.length kc)) := hl.rowL (vs := snL s (.slice ka s.kids.length kc)) 0 0 4 rfl
  have hx1 := hl.done
  clear hl
  refine a_asg ?_
  refine o_nil (hK _ _ ?_)
  clear hK K
  refine wk_seq fun K hK => ?_
  refine wk_reg ?_
  refine a_asg ?_
  refine o_nil (hK _ _ ?_)
  clear hK K
  refine wk_seq fun K hK => ?_
  refine wk_seq fun K2 hK2 => ?_
  refine wk_reg ?_
  refine a_asg ?_
  refine o_nil (hK2 _ _ ?_)
  clear hK2 K2
  refine wk_block ?_
  refine wk_loopH [] rfl (fun q : Nat × Int => [(1, .pointer (some ⟨b2, 0, none⟩)), (3, .int .i64 q.2), (4, .int .i64 (q.1 : Int))]) (fun q w' => (q.1 ≤ s.kids.length ∧ 1 ≤ q.2 ∧ q.2 ≤ 300 * (dep s : Int) ∧ (q.2 ≤ 200 → q.2 = 1 + cntL (s.kids.take q.1)) ∧ (200 < q.2 → 200 < 1 + cntL (s.kids.take q.1))) ∧ Ext w1 w') (fun q => s.kids.length - q.1) (0, 1) ⟨rfl, rfl, rfl, trivial⟩ ⟨⟨Nat.zero_le _, by simp only; omega, by simp only; omega, fun _ => by simp [cntL], fun h => by simp at h⟩, .refl _ _⟩ ?_
  rintro ⟨i, c⟩ t w2 ⟨⟨hi, hc1, hc2, hc3, hc4⟩, hx⟩
  simp only at hi hc1 hc2 hc3 hc4
  refine wk_seq fun K1 hK1 => ?_
  refine wk_seq fun K2 hK2 => ?_
  refine wk_reg ?_
  by_cases hgo : i < s.kids.length ∧ c ≤ 200
  · obtain ⟨hi1, hcc⟩ := hgo
    have hex := hc3 hcc
    obtain ⟨b, o, kv1, hpp, hrk, hk1⟩ := ((hk.ext hx1).ext hx).at hi1
    have hmem := List.getElem_mem hi1
    have hdk := dep_le_of_mem hmem
    have hfk := fitL_mem hkf _ hmem
    have htk := cntL_take_succ hi1
    repeat' (first | refine a_mov ?_ | refine a_asg ?_ | refine a_binN ?_ | refine a_notd ?_ | refine a_notb ?_ | refine a_nilc ?_ | refine a_fa ?_ | refine a_ext ?_ | refine a_lenv ?_ | refine a_lens ?_ | refine a_pick_t ?_ | refine a_pick_f ?_ | refine a_not ?_ | refine a_nilf ?_ | (refine a_bin ?_ ?_ <;> intro _ <;> try (exfalso; omega)) | refine a_ld hl ?_ | (refine a_st hl ?_; clear hl; intro _ hl) | refine a_ix (fun _ => ?_) | refine a_row (hr.ext hx) ?_ | fail)
    refine o_nil (hK2 _ _ ?_)
    clear hK2 K2
    refine wk_cond_t rfl ?_
    refine wk_skip (hK1 _ _ ?_)
    clear hK1 K1
    refine wk_seq fun K1 hK1 => ?_
    refine wk_block ?_
    refine wk_reg ?_
    repeat' (first | refine a_mov ?_ | refine a_asg ?_ | refine a_binN ?_ | refine a_notd ?_ | refine a_notb ?_ | refine a_nilc ?_ | refine a_fa ?_ | refine a_ext ?_ | refine a_lenv ?_ | refine a_lens ?_ | refine a_pick_t ?_ | refine a_pick_f ?_ | refine a_not ?_ | refine a_nilf ?_ | (refine a_bin ?_ ?_ <;> intro _ <;> try (exfalso; omega)) | refine a_ld hl ?_ | (refine a_st hl ?_; clear hl; intro _ hl) | refine a_ix (fun _ => ?_) | refine a_row (hr.ext hx) ?_ | refine a_idx (c := 4) i hpp ?_ | refine a_all hrk ?_ | fail)
    refine a_fn (ih s.kids[i] hmem w2 kv1 (by omega) ((fitS_eq _).1 hfk).2.1 hfk hk1) ?_
    rintro _ w3 ⟨c1, rfl, h1, h2, h3, h4, hx3⟩
    repeat' (first | refine a_mov ?_ | refine a_asg ?_ | refine a_binN ?_ | refine a_notd ?_ | refine a_notb ?_ | refine a_nilc ?_ | refine a_fa ?_ | refine a_ext ?_ | refine a_lenv ?_ | refine a_lens ?_ | refine a_pick_t ?_ | refine a_pick_f ?_ | refine a_not ?_ | refine a_nilf ?_ | (refine a_bin ?_ ?_ <;> intro _ <;> try (exfalso; omega)) | refine a_ld hl ?_ | (refine a_st hl ?_; clear hl; intro _ hl) | refine a_ix (fun _ => ?_) | fail)
    refine o_nil (hK1 _ _ ?_)
    clear hK1 K1
    refine wk_reg ?_
    repeat' (first | refine a_mov ?_ | refine a_asg ?_ | refine a_binN ?_ | refine a_notd ?_ | refine a_notb ?_ | refine a_nilc ?_ | refine a_fa ?_ | refine a_ext ?_ | refine a_lenv ?_ | refine a_lens ?_ | refine a_pick_t ?_ | refine a_pick_f ?_ | refine a_not ?_ | refine a_nilf ?_ | (refine a_bin ?_ ?_ <;> intro _ <;> try (exfalso; omega)) | refine a_ld hl ?_ | (refine a_st hl ?_; clear hl; intro _ hl) | refine a_ix (fun _ => ?_) | fail)
    refine o_nil ⟨(i + 1, c + c1), ⟨rfl, rfl, rfl, trivial⟩, rfl, ⟨⟨hi1, by simp only; omega, by simp only; omega, fun h => ?_, fun h => ?_⟩, hx.trans hx3⟩, by simp only; omega⟩
    · simp only at h ⊢
      have := h3 (by omega)
      omega
    · simp only at h ⊢
      by_cases hc5 : c1 ≤ 200
      · have := h3 hc5
        omega
      · have := h4 (by omega)
        omega
  · have hle := cntL_take_le s.kids i
    have hfin : (c ≤ 200 → c = cnt s) ∧ (200 < c → 200 < cnt s) := by
      refine ⟨fun h => ?_, fun h => ?_⟩
      · have h5 := hc3 h
        obtain rfl : i = s.kids.length := by omega
        rw [List.take_length] at h5
        omega
      · have := hc4 h
        omega
    repeat' (first | refine a_mov ?_ | refine a_asg ?_ | refine a_binN ?_ | refine a_notd ?_ | refine a_notb ?_ | refine a_nilc ?_ | refine a_fa ?_ | refine a_ext ?_ | refine a_lenv ?_ | refine a_lens ?_ | refine a_pick_t ?_ | refine a_pick_f ?_ | refine a_not ?_ | refine a_nilf ?_ | (refine a_bin ?_ ?_ <;> intro _ <;> try (exfalso; omega)) | refine a_ld hl ?_ | (refine a_st hl ?_; clear hl; intro _ hl) | refine a_ix (fun _ => ?_) | refine a_row (hr.ext hx) ?_ | fail)
    all_goals
      refine o_nil (hK2 _ _ ?_)
      clear hK2 K2
      refine wk_cond_f rfl ?_
      refine wk_exit ?_
      refine blockK_same ?_
      refine hK _ _ ?_
      clear hK1 K1
      clear hK K
      refine wk_seq fun K hK => ?_
      refine wk_reg ?_
      refine a_mov ?_
      refine a_asg ?_
      refine o_nil (hK _ _ ?_)
      refine wk_ret (retQ_tmp1 Tryz.results39 (by decide) rfl (by conv => lhs; whnf) ?_)
      exact ⟨c, rfl, hc1, hc2, hfin.1, hfin.2, hx1.trans hx⟩
set_option maxHeartbeats 2000000 in
theorem depth_calls : ∀ (s : Sn) (w : World) (kv : Value), dep s ≤ 1000000 → fitS s → KA w s.kids kv → Calls Tryz.prog 40 #[.agg (snL s kv).toArray] w (fun e w' => ∃ v, e = .returned v ∧ v = .int .i64 (dep s : Int) ∧ Ext w w') := Sn.ind fun s ih => by
  intro w kv hd hfit hk
  obtain ⟨ka, kc, rfl, -⟩ := hk.shape
  have hkf := ((fitS_eq s).1 hfit).2.2
  have hlen := ((fitS_eq s).1 hfit).2.1
  have hde := dep_eq s
  refine calls_of Tryz.func40 rfl Tryz.ntmps40 rfl ?_
  refine wk_seq fun K hK => ?_
  refine wk_reg ?_
  refine o_box (LH.start w (fun _ => False)) (snL s (.slice ka s.kids.length kc)) rfl rfl rfl ?_
  intro b2 w1 hb2 hl
  have hr : Row w1 b2 0 (snL s (.slice ka s.kids.length kc)) := hl.rowL (vs := snL s (.slice ka s.kids.length kc)) 0 0 4 rfl
  have hx1 := hl.done
  clear hl
  refine a_asg ?_
  refine o_nil (hK _ _ ?_)
  clear hK K
  refine wk_seq fun K hK => ?_
  refine wk_reg ?_
  refine a_asg ?_
  refine o_nil (hK _ _ ?_)
  clear hK K
  refine wk_seq fun K hK => ?_
  refine wk_seq fun K2 hK2 => ?_
  refine wk_reg ?_
  refine a_asg ?_
  refine o_nil (hK2 _ _ ?_)
  clear hK2 K2
  refine wk_block ?_
  refine wk_loopH [] rfl (fun i : Nat => [(1, .pointer (some ⟨b2, 0, none⟩)), (3, .int .i64 (depL (s.kids.take i) : Int)), (4, .int .i64 (i : Int))]) (fun i w' => (i ≤ s.kids.length ∧ depL (s.kids.take i) ≤ 1000000) ∧ Ext w1 w') (fun i => s.kids.length - i) 0 ⟨rfl, rfl, rfl, trivial⟩ ⟨⟨Nat.zero_le _, by simp [depL]⟩, .refl _ _⟩ ?_
  rintro i t w2 ⟨⟨hi, hdi⟩, hx⟩
  refine wk_seq fun K1 hK1 => ?_
  refine wk_seq fun K2 hK2 => ?_
  refine wk_reg ?_
  by_cases hi1 : i < s.kids.length
  · obtain ⟨b, o, kv1, hpp, hrk, hk1⟩ := ((hk.ext hx1).ext hx).at hi1
    have hmem := List.getElem_mem hi1
    have hdk := dep_le_of_mem hmem
    have hfk := fitL_mem hkf _ hmem
    have htk := depL_take_succ hi1
    repeat' (first | refine a_mov ?_ | refine a_asg ?_ | refine a_binN ?_ | refine a_notd ?_ | refine a_notb ?_ | refine a_nilc ?_ | refine a_fa ?_ | refine a_ext ?_ | refine a_lenv ?_ | refine a_lens ?_ | refine a_pick_t ?_ | refine a_pick_f ?_ | refine a_not ?_ | refine a_nilf ?_ | (refine a_bin ?_ ?_ <;> intro _ <;> try (exfalso; omega)) | refine a_ld hl ?_ | (refine a_st hl ?_; clear hl; intro _ hl) | refine a_ix (fun _ => ?_) | refine a_row (hr.ext hx) ?_ | fail)
    refine o_nil (hK2 _ _ ?_)
    clear hK2 K2
    refine wk_cond_t rfl ?_
    refine wk_skip (hK1 _ _ ?_)
    clear hK1 K1
    refine wk_seq fun K1 hK1 => ?_
    refine wk_block ?_
    refine wk_reg ?_
    repeat' (first | refine a_mov ?_ | refine a_asg ?_ | refine a_binN ?_ | refine a_notd ?_ | refine a_notb ?_ | refine a_nilc ?_ | refine a_fa ?_ | refine a_ext ?_ | refine a_lenv ?_ | refine a_lens ?_ | refine a_pick_t ?_ | refine a_pick_f ?_ | refine a_not ?_ | refine a_nilf ?_ | (refine a_bin ?_ ?_ <;> intro _ <;> try (exfalso; omega)) | refine a_ld hl ?_ | (refine a_st hl ?_; clear hl; intro _ hl) | refine a_ix (fun _ => ?_) | refine a_row (hr.ext hx) ?_ | refine a_idx (c := 4) i hpp ?_ | refine a_all hrk ?_ | fail)
    refine a_fn (ih s.kids[i] hmem w2 kv1 (by omega) hfk hk1) ?_
    rintro _ w3 ⟨rfl, hx3⟩
    refine o_max rfl rfl rfl ?_
    repeat' (first | refine a_mov ?_ | refine a_asg ?_ | refine a_binN ?_ | refine a_notd ?_ | refine a_notb ?_ | refine a_nilc ?_ | refine a_fa ?_ | refine a_ext ?_ | refine a_lenv ?_ | refine a_lens ?_ | refine a_pick_t ?_ | refine a_pick_f ?_ | refine a_not ?_ | refine a_nilf ?_ | (refine a_bin ?_ ?_ <;> intro _ <;> try (exfalso; omega)) | refine a_ld hl ?_ | (refine a_st hl ?_; clear hl; intro _ hl) | refine a_ix (fun _ => ?_) | fail)
    refine o_nil (hK1 _ _ ?_)
    clear hK1 K1
    refine wk_reg ?_
    repeat' (first | refine a_mov ?_ | refine a_asg ?_ | refine a_binN ?_ | refine a_notd ?_ | refine a_notb ?_ | refine a_nilc ?_ | refine a_fa ?_ | refine a_ext ?_ | refine a_lenv ?_ | refine a_lens ?_ | refine a_pick_t ?_ | refine a_pick_f ?_ | refine a_not ?_ | refine a_nilf ?_ | (refine a_bin ?_ ?_ <;> intro _ <;> try (exfalso; omega)) | refine a_ld hl ?_ | (refine a_st hl ?_; clear hl; intro _ hl) | refine a_ix (fun _ => ?_) | fail)
    have hmx : (max (depL (s.kids.take i) : Int) (dep s.kids[i] : Int)) = (depL (s.kids.take (i + 1)) : Int) := by rw [htk]; omega
    refine o_nil ⟨i + 1, ⟨rfl, by rw [← hmx]; rfl, rfl, trivial⟩, rfl, ⟨⟨hi1, by omega⟩, hx.trans hx3⟩, by omega⟩
  · obtain rfl : i = s.kids.length := by omega
    rw [List.take_length] at hdi ⊢
    repeat' (first | refine a_mov ?_ | refine a_asg ?_ | refine a_binN ?_ | refine a_notd ?_ | refine a_notb ?_ | refine a_nilc ?_ | refine a_fa ?_ | refine a_ext ?_ | refine a_lenv ?_ | refine a_lens ?_ | refine a_pick_t ?_ | refine a_pick_f ?_ | refine a_not ?_ | refine a_nilf ?_ | (refine a_bin ?_ ?_ <;> intro _ <;> try (exfalso; omega)) | refine a_ld hl ?_ | (refine a_st hl ?_; clear hl; intro _ hl) | refine a_ix (fun _ => ?_) | refine a_row (hr.ext hx) ?_ | fail)
    refine o_nil (hK2 _ _ ?_)
    clear hK2 K2
    refine wk_cond_f rfl ?_
    refine wk_exit ?_
    refine blockK_same ?_
    refine hK _ _ ?_
    clear hK1 K1
    clear hK K
    refine wk_seq fun K hK => ?_
    refine wk_reg ?_
    repeat' (first | refine a_mov ?_ | refine a_asg ?_ | refine a_binN ?_ | refine a_notd ?_ | refine a_notb ?_ | refine a_nilc ?_ | refine a_fa ?_ | refine a_ext ?_ | refine a_lenv ?_ | refine a_lens ?_ | refine a_pick_t ?_ | refine a_pick_f ?_ | refine a_not ?_ | refine a_nilf ?_ | (refine a_bin ?_ ?_ <;> intro _ <;> try (exfalso; omega)) | refine a_ld hl ?_ | (refine a_st hl ?_; clear hl; intro _ hl) | refine a_ix (fun _ => ?_) | fail)
    refine o_nil (hK _ _ ?_)
    refine wk_ret (retQ_tmp1 Tryz.results40 (by decide) rfl (by conv => lhs; whnf) ?_)
    refine ⟨?_, hx1.trans hx⟩
    rw [hde]
    rfl
theorem nameR_calls (s : Tx) (hn : s.length ≤ 9223372036854775806) (w : World) : Calls Tryz.prog 75 #[str s] w (fun e w' => ∃ x, e = .returned x ∧ x = .bool (nameB s) ∧ w' = w) := by
  rw [← nm_name]
  exact refNm_calls s hn w
set_option maxHeartbeats 4000000 in
theorem node_calls : ∀ (s : Sn) (w : World) (kv : Value), fitS s → KA w s.kids kv → Calls Tryz.prog 41 #[.agg (snL s kv).toArray] w (fun e w' => ∃ v, e = .returned v ∧ v = .bool (okB s) ∧ Ext w w') := Sn.ind fun s ih => by
  intro w kv hfit hk
  obtain ⟨ka, kc, rfl, -⟩ := hk.shape
  obtain ⟨hf1, hf2, hkf⟩ := (fitS_eq s).1 hfit
  have hoe := okB_eq s
  rw [nodeB_AC] at hoe
  refine calls_of Tryz.func41 rfl Tryz.ntmps41 rfl ?_
  refine wk_seq fun K hK => ?_
  refine wk_reg ?_
  refine o_box (LH.start w (fun _ => False)) (snL s (.slice ka s.kids.length kc)) rfl rfl rfl ?_
  intro b2 w1 hb2 hl
  have hr : Row w1 b2 0 (snL s (.slice ka s.kids.length kc)) := hl.rowL (vs := snL s (.slice ka s.kids.length kc)) 0 0 4 rfl
  have hx1 := hl.done
  clear hl
  refine a_asg ?_
  refine o_nil (hK _ _ ?_)
  clear hK K
  refine wk_seq fun K hK => ?_
  refine wk_cut [] (fun _ : Unit => [(1, .pointer (some ⟨b2, 0, none⟩)), (3, .bool (named s.op))]) (fun _ w' => w' = w1) ?_ ?_
  · refine wk_reg ?_
    cases hn : named s.op
    · have hn2 : ¬ (4 ≤ s.op ∧ s.op ≤ 7) := by unfold named at hn; simpa using hn
      repeat' (first | refine a_mov ?_ | refine a_asg ?_ | refine a_binN ?_ | refine a_notd ?_ | refine a_notb ?_ | refine a_nilc ?_ | refine a_fa ?_ | refine a_ext ?_ | refine a_lenv ?_ | refine a_lens ?_ | refine a_pick_t ?_ | refine a_pick_f ?_ | refine a_not ?_ | refine a_nilf ?_ | (refine a_bin ?_ ?_ <;> intro _ <;> try (exfalso; omega)) | refine a_ld hl ?_ | (refine a_st hl ?_; clear hl; intro _ hl) | refine a_ix (fun _ => ?_) | refine a_row hr ?_ | fail)
      all_goals exact o_nil ⟨(), ⟨rfl, rfl, trivial⟩, rfl, rfl⟩
    · have hn2 : (4 ≤ s.op ∧ s.op ≤ 7) := by unfold named at hn; simpa using hn
      repeat' (first | refine a_mov ?_ | refine a_asg ?_ | refine a_binN ?_ | refine a_notd ?_ | refine a_notb ?_ | refine a_nilc ?_ | refine a_fa ?_ | refine a_ext ?_ | refine a_lenv ?_ | refine a_lens ?_ | refine a_pick_t ?_ | refine a_pick_f ?_ | refine a_not ?_ | refine a_nilf ?_ | (refine a_bin ?_ ?_ <;> intro _ <;> try (exfalso; omega)) | refine a_ld hl ?_ | (refine a_st hl ?_; clear hl; intro _ hl) | refine a_ix (fun _ => ?_) | refine a_row hr ?_ | fail)
      all_goals exact o_nil ⟨(), ⟨rfl, rfl, trivial⟩, rfl, rfl⟩
  rintro _ t w1 rfl
  refine hK _ _ ?_
  clear hK K
  refine wk_seq fun K hK => ?_
  refine wk_cut [] (fun _ : Unit => [(1, .pointer (some ⟨b2, 0, none⟩)), (3, .bool (named s.op)), (4, .bool (many s.op))]) (fun _ w' => w' = w1) ?_ ?_
  · refine wk_reg ?_
    cases hn : many s.op
    · have hn2 : ¬ (s.op = 8 ∨ s.op = 9) := by unfold many at hn; simpa using hn
      repeat' (first | refine a_mov ?_ | refine a_asg ?_ | refine a_binN ?_ | refine a_notd ?_ | refine a_notb ?_ | refine a_nilc ?_ | refine a_fa ?_ | refine a_ext ?_ | refine a_lenv ?_ | refine a_lens ?_ | refine a_pick_t ?_ | refine a_pick_f ?_ | refine a_not ?_ | refine a_nilf ?_ | (refine a_bin ?_ ?_ <;> intro _ <;> try (exfalso; omega)) | refine a_ld hl ?_ | (refine a_st hl ?_; clear hl; intro _ hl) | refine a_ix (fun _ => ?_) | refine a_row hr ?_ | fail)
      all_goals exact o_nil ⟨(), ⟨rfl, rfl, rfl, trivial⟩, rfl, rfl⟩
    · have hn2 : (s.op = 8 ∨ s.op = 9) := by unfold many at hn; simpa using hn
      repeat' (first | refine a_mov ?_ | refine a_asg ?_ | refine a_binN ?_ | refine a_notd ?_ | refine a_notb ?_ | refine a_nilc ?_ | refine a_fa ?_ | refine a_ext ?_ | refine a_lenv ?_ | refine a_lens ?_ | refine a_pick_t ?_ | refine a_pick_f ?_ | refine a_not ?_ | refine a_nilf ?_ | (refine a_bin ?_ ?_ <;> intro _ <;> try (exfalso; omega)) | refine a_ld hl ?_ | (refine a_st hl ?_; clear hl; intro _ hl) | refine a_ix (fun _ => ?_) | refine a_row hr ?_ | fail)
      all_goals exact o_nil ⟨(), ⟨rfl, rfl, rfl, trivial⟩, rfl, rfl⟩
  rintro _ t w1 rfl
  refine hK _ _ ?_
  clear hK K
  refine wk_seq fun K hK => ?_
  refine wk_seq fun K2 hK2 => ?_
  refine wk_cut [] (fun _ : Unit => [(1, .pointer (some ⟨b2, 0, none⟩)), (4, .bool (many s.op)), (45, .bool (!nodeA s))]) (fun _ w' => w' = w1) ?_ ?_
  · refine wk_reg ?_
    by_cases hop : 1 ≤ s.op ∧ s.op ≤ 9
    · cases hn : named s.op
      · by_cases hne : s.name = []
        · have hA : nodeA s = true := by unfold nodeA; rw [hn, hne]; simp [hop]
          repeat' (first | refine a_mov ?_ | refine a_asg ?_ | refine a_binN ?_ | refine a_notd ?_ | refine a_notb ?_ | refine a_nilc ?_ | refine a_fa ?_ | refine a_ext ?_ | refine a_lenv ?_ | refine a_lens ?_ | refine a_pick_t ?_ | refine a_pick_f ?_ | refine a_not ?_ | refine a_nilf ?_ | (refine a_bin ?_ ?_ <;> intro _ <;> try (exfalso; omega)) | refine a_ld hl ?_ | (refine a_st hl ?_; clear hl; intro _ hl) | refine a_ix (fun _ => ?_) | refine a_row hr ?_ | refine o_nesT (a := s.name) (b := []) rfl rfl (by simp only [str_eq]; rfl) (fun h_ => absurd hne h_) (fun _ => ?_) | refine o_neB rfl rfl rfl rfl ?_ | fail)
          all_goals
            rw [hA]
            exact o_nil ⟨(), ⟨rfl, rfl, rfl, trivial⟩, rfl, rfl⟩
        · have hA : nodeA s = false := by unfold nodeA; rw [hn]; simp [hne]
          repeat' (first | refine a_mov ?_ | refine a_asg ?_ | refine a_binN ?_ | refine a_notd ?_ | refine a_notb ?_ | refine a_nilc ?_ | refine a_fa ?_ | refine a_ext ?_ | refine a_lenv ?_ | refine a_lens ?_ | refine a_pick_t ?_ | refine a_pick_f ?_ | refine a_not ?_ | refine a_nilf ?_ | (refine a_bin ?_ ?_ <;> intro _ <;> try (exfalso; omega)) | refine a_ld hl ?_ | (refine a_st hl ?_; clear hl; intro _ hl) | refine a_ix (fun _ => ?_) | refine a_row hr ?_ | refine o_nesT (a := s.name) (b := []) rfl rfl (by simp only [str_eq]; rfl) (fun _ => ?_) (fun h_ => absurd h_ hne) | refine o_neB rfl rfl rfl rfl ?_ | fail)
          all_goals
            rw [hA]
            exact o_nil ⟨(), ⟨rfl, rfl, rfl, trivial⟩, rfl, rfl⟩
      · by_cases hne : s.name = []
        · have hA : nodeA s = false := by unfold nodeA; rw [hn, hne]; simp [nameB]
          repeat' (first | refine a_mov ?_ | refine a_asg ?_ | refine a_binN ?_ | refine a_notd ?_ | refine a_notb ?_ | refine a_nilc ?_ | refine a_fa ?_ | refine a_ext ?_ | refine a_lenv ?_ | refine a_lens ?_ | refine a_pick_t ?_ | refine a_pick_f ?_ | refine a_not ?_ | refine a_nilf ?_ | (refine a_bin ?_ ?_ <;> intro _ <;> try (exfalso; omega)) | refine a_ld hl ?_ | (refine a_st hl ?_; clear hl; intro _ hl) | refine a_ix (fun _ => ?_) | refine a_row hr ?_ | refine o_nesT (a := s.name) (b := []) rfl rfl (by simp only [str_eq]; rfl) (fun h_ => absurd hne h_) (fun _ => ?_) | refine o_neB rfl rfl rfl rfl ?_ | fail)
          all_goals
            rw [hA]
            exact o_nil ⟨(), ⟨rfl, rfl, rfl, trivial⟩, rfl, rfl⟩
        · have hA : nodeA s = nameB s.name := by unfold nodeA; rw [hn]; simp [hop]
          repeat' (first | refine a_mov ?_ | refine a_asg ?_ | refine a_binN ?_ | refine a_notd ?_ | refine a_notb ?_ | refine a_nilc ?_ | refine a_fa ?_ | refine a_ext ?_ | refine a_lenv ?_ | refine a_lens ?_ | refine a_pick_t ?_ | refine a_pick_f ?_ | refine a_not ?_ | refine a_nilf ?_ | (refine a_bin ?_ ?_ <;> intro _ <;> try (exfalso; omega)) | refine a_ld hl ?_ | (refine a_st hl ?_; clear hl; intro _ hl) | refine a_ix (fun _ => ?_) | refine a_row hr ?_ | refine o_nesT (a := s.name) (b := []) rfl rfl (by simp only [str_eq]; rfl) (fun _ => ?_) (fun h_ => absurd h_ hne) | refine o_neB rfl rfl rfl rfl ?_ | fail)
          all_goals
            refine a_fn (nameR_calls s.name (by omega) w1) ?_
            rintro _ _ ⟨rfl, rfl⟩
            repeat' (first | refine a_mov ?_ | refine a_asg ?_ | refine a_binN ?_ | refine a_notd ?_ | refine a_notb ?_ | refine a_nilc ?_ | refine a_fa ?_ | refine a_ext ?_ | refine a_lenv ?_ | refine a_lens ?_ | refine a_pick_t ?_ | refine a_pick_f ?_ | refine a_not ?_ | refine a_nilf ?_ | (refine a_bin ?_ ?_ <;> intro _ <;> try (exfalso; omega)) | refine a_ld hl ?_ | (refine a_st hl ?_; clear hl; intro _ hl) | refine a_ix (fun _ => ?_) | fail)
            rw [hA]
            exact o_nil ⟨(), ⟨rfl, rfl, rfl, trivial⟩, rfl, rfl⟩
    · have hA : nodeA s = false := by unfold nodeA; rw [decide_eq_false hop]; rfl
      repeat' (first | refine a_mov ?_ | refine a_asg ?_ | refine a_binN ?_ | refine a_notd ?_ | refine a_notb ?_ | refine a_nilc ?_ | refine a_fa ?_ | refine a_ext ?_ | refine a_lenv ?_ | refine a_lens ?_ | refine a_pick_t ?_ | refine a_pick_f ?_ | refine a_not ?_ | refine a_nilf ?_ | (refine a_bin ?_ ?_ <;> intro _ <;> try (exfalso; omega)) | refine a_ld hl ?_ | (refine a_st hl ?_; clear hl; intro _ hl) | refine a_ix (fun _ => ?_) | refine a_row hr ?_ | fail)
      all_goals
        rw [hA]
        exact o_nil ⟨(), ⟨rfl, rfl, rfl, trivial⟩, rfl, rfl⟩
  rintro _ t w1 rfl
  refine hK2 _ _ ?_
  clear hK2 K2
  cases hA : nodeA s
  · refine wk_cond_t rfl ?_
    refine wk_seq fun K2 hK2 => ?_
    refine wk_reg ?_
    refine a_asg ?_
    refine o_nil (hK2 _ _ ?_)
    refine wk_ret (retQ_tmp1 Tryz.results41 (by decide) rfl (by conv => lhs; whnf) ?_)
    rw [hoe, hA]
    exact ⟨rfl, hx1⟩
  rw [hA, Bool.true_and] at hoe
  refine wk_cond_f rfl ?_
  refine wk_skip (hK _ _ ?_)
  clear hK K
  refine wk_seq fun K hK => ?_
  refine wk_seq fun K2 hK2 => ?_
  refine wk_cut [] (fun _ : Unit => [(1, .pointer (some ⟨b2, 0, none⟩)), (77, .bool (!nodeC s))]) (fun _ w' => w' = w1) ?_ ?_
  · refine wk_reg ?_
    have hkl : s.kids = [] ↔ s.kids.length = 0 := List.length_eq_zero_iff.symm
    cases hn : many s.op
    · have hC : nodeC s = decide ((s.day = 0 ∨ (s.op = 3 ∧ 0 < s.day ∧ s.day ≤ 1000000)) ∧ s.kids.length = 0) := by
        unfold nodeC
        rw [hn, if_neg (by decide), Bool.decide_and]
        congr 1
        exact decide_eq_decide.2 hkl
      repeat' (first | refine a_mov ?_ | refine a_asg ?_ | refine a_binN ?_ | refine a_notd ?_ | refine a_notb ?_ | refine a_nilc ?_ | refine a_fa ?_ | refine a_ext ?_ | refine a_lenv ?_ | refine a_lens ?_ | refine a_pick_t ?_ | refine a_pick_f ?_ | refine a_not ?_ | refine a_nilf ?_ | (refine a_bin ?_ ?_ <;> intro _ <;> try (exfalso; omega)) | refine a_ld hl ?_ | (refine a_st hl ?_; clear hl; intro _ hl) | refine a_ix (fun _ => ?_) | refine a_row hr ?_ | refine o_neB rfl rfl rfl rfl ?_ | fail)
      all_goals
        refine o_nil ⟨(), ⟨rfl, ?_, trivial⟩, rfl, rfl⟩
        rw [hC]
        first
          | rw [decide_eq_true (by omega)]; rfl
          | rw [decide_eq_false (by omega)]; rfl
    · have hC : nodeC s = decide ((s.day = 0 ∨ (s.op = 3 ∧ 0 < s.day ∧ s.day ≤ 1000000)) ∧ 2 ≤ s.kids.length) := by
        unfold nodeC
        rw [hn, if_pos rfl, Bool.decide_and]
      repeat' (first | refine a_mov ?_ | refine a_asg ?_ | refine a_binN ?_ | refine a_notd ?_ | refine a_notb ?_ | refine a_nilc ?_ | refine a_fa ?_ | refine a_ext ?_ | refine a_lenv ?_ | refine a_lens ?_ | refine a_pick_t ?_ | refine a_pick_f ?_ | refine a_not ?_ | refine a_nilf ?_ | (refine a_bin ?_ ?_ <;> intro _ <;> try (exfalso; omega)) | refine a_ld hl ?_ | (refine a_st hl ?_; clear hl; intro _ hl) | refine a_ix (fun _ => ?_) | refine a_row hr ?_ | refine o_neB rfl rfl rfl rfl ?_ | fail)
      all_goals
        refine o_nil ⟨(), ⟨rfl, ?_, trivial⟩, rfl, rfl⟩
        rw [hC]
        first
          | rw [decide_eq_true (by omega)]; rfl
          | rw [decide_eq_false (by omega)]; rfl
  rintro _ t w1 rfl
  refine hK2 _ _ ?_
  clear hK2 K2
  cases hC : nodeC s
  · refine wk_cond_t rfl ?_
    refine wk_seq fun K2 hK2 => ?_
    refine wk_reg ?_
    refine a_asg ?_
    refine o_nil (hK2 _ _ ?_)
    refine wk_ret (retQ_tmp1 Tryz.results41 (by decide) rfl (by conv => lhs; whnf) ?_)
    rw [hoe, hC]
    exact ⟨rfl, hx1⟩
  rw [hC, Bool.true_and, okL_all] at hoe
  refine wk_cond_f rfl ?_
  refine wk_skip (hK _ _ ?_)
  clear hK K
  refine wk_seq fun K hK => ?_
  refine wk_seq fun K2 hK2 => ?_
  refine wk_reg ?_
  refine a_asg ?_
  refine o_nil (hK2 _ _ ?_)
  clear hK2 K2
  refine wk_block ?_
  refine wk_loopH [] rfl (fun i : Nat => [(1, .pointer (some ⟨b2, 0, none⟩)), (5, .int .i64 (i : Int))]) (fun i w' => (i ≤ s.kids.length ∧ (s.kids.take i).all okB = true) ∧ Ext w1 w') (fun i => s.kids.length - i) 0 ⟨rfl, rfl, trivial⟩ ⟨⟨Nat.zero_le _, by simp⟩, .refl _ _⟩ ?_
  rintro i t w2 ⟨⟨hi, hpre⟩, hx⟩
  refine wk_seq fun K1 hK1 => ?_
  refine wk_seq fun K2 hK2 => ?_
  refine wk_reg ?_
  by_cases hi1 : i < s.kids.length
  · obtain ⟨b, o, kv1, hpp, hrk, hk1⟩ := ((hk.ext hx1).ext hx).at hi1
    have hmem := List.getElem_mem hi1
    have hfk := fitL_mem hkf _ hmem
    repeat' (first | refine a_mov ?_ | refine a_asg ?_ | refine a_binN ?_ | refine a_notd ?_ | refine a_notb ?_ | refine a_nilc ?_ | refine a_fa ?_ | refine a_ext ?_ | refine a_lenv ?_ | refine a_lens ?_ | refine a_pick_t ?_ | refine a_pick_f ?_ | refine a_not ?_ | refine a_nilf ?_ | (refine a_bin ?_ ?_ <;> intro _ <;> try (exfalso; omega)) | refine a_ld hl ?_ | (refine a_st hl ?_; clear hl; intro _ hl) | refine a_ix (fun _ => ?_) | refine a_row (hr.ext hx) ?_ | fail)
    refine o_nil (hK2 _ _ ?_)
    clear hK2 K2
    refine wk_cond_t rfl ?_
    refine wk_skip (hK1 _ _ ?_)
    clear hK1 K1
    refine wk_seq fun K1 hK1 => ?_
    refine wk_block ?_
    refine wk_seq fun K2 hK2 => ?_
    refine wk_reg ?_
    repeat' (first | refine a_mov ?_ | refine a_asg ?_ | refine a_binN ?_ | refine a_notd ?_ | refine a_notb ?_ | refine a_nilc ?_ | refine a_fa ?_ | refine a_ext ?_ | refine a_lenv ?_ | refine a_lens ?_ | refine a_pick_t ?_ | refine a_pick_f ?_ | refine a_not ?_ | refine a_nilf ?_ | (refine a_bin ?_ ?_ <;> intro _ <;> try (exfalso; omega)) | refine a_ld hl ?_ | (refine a_st hl ?_; clear hl; intro _ hl) | refine a_ix (fun _ => ?_) | refine a_row (hr.ext hx) ?_ | refine a_idx (c := 4) i hpp ?_ | refine a_all hrk ?_ | fail)
    refine a_fn (ih s.kids[i] hmem w2 kv1 hfk hk1) ?_
    rintro _ w3 ⟨rfl, hx3⟩
    refine a_notb ?_
    refine o_nil (hK2 _ _ ?_)
    clear hK2 K2
    cases hb : okB s.kids[i]
    · refine wk_cond_t rfl ?_
      refine wk_seq fun K2 hK2 => ?_
      refine wk_reg ?_
      refine a_asg ?_
      refine o_nil (hK2 _ _ ?_)
      refine wk_ret (retQ_tmp1 Tryz.results41 (by decide) rfl (by conv => lhs; whnf) ?_)
      refine ⟨?_, (hx1.trans hx).trans hx3⟩
      have : s.kids.all okB = false := by
        rw [List.all_eq_false]
        exact ⟨_, hmem, by rw [hb]; decide⟩
      rw [hoe, this]
    · refine wk_cond_f rfl ?_
      refine wk_skip (hK1 _ _ ?_)
      clear hK1 K1
      refine wk_reg ?_
      repeat' (first | refine a_mov ?_ | refine a_asg ?_ | refine a_binN ?_ | refine a_notd ?_ | refine a_notb ?_ | refine a_nilc ?_ | refine a_fa ?_ | refine a_ext ?_ | refine a_lenv ?_ | refine a_lens ?_ | refine a_pick_t ?_ | refine a_pick_f ?_ | refine a_not ?_ | refine a_nilf ?_ | (refine a_bin ?_ ?_ <;> intro _ <;> try (exfalso; omega)) | refine a_ld hl ?_ | (refine a_st hl ?_; clear hl; intro _ hl) | refine a_ix (fun _ => ?_) | fail)
      refine o_nil ⟨i + 1, ⟨rfl, rfl, trivial⟩, rfl, ⟨⟨hi1, ?_⟩, hx.trans hx3⟩, by omega⟩
      rw [List.take_succ_eq_append_getElem hi1, List.all_append, hpre]
      simp [hb]
  · obtain rfl : i = s.kids.length := by omega
    rw [List.take_length] at hpre
    repeat' (first | refine a_mov ?_ | refine a_asg ?_ | refine a_binN ?_ | refine a_notd ?_ | refine a_notb ?_ | refine a_nilc ?_ | refine a_fa ?_ | refine a_ext ?_ | refine a_lenv ?_ | refine a_lens ?_ | refine a_pick_t ?_ | refine a_pick_f ?_ | refine a_not ?_ | refine a_nilf ?_ | (refine a_bin ?_ ?_ <;> intro _ <;> try (exfalso; omega)) | refine a_ld hl ?_ | (refine a_st hl ?_; clear hl; intro _ hl) | refine a_ix (fun _ => ?_) | refine a_row (hr.ext hx) ?_ | fail)
    refine o_nil (hK2 _ _ ?_)
    clear hK2 K2
    refine wk_cond_f rfl ?_
    refine wk_exit ?_
    refine blockK_same ?_
    refine hK _ _ ?_
    clear hK1 K1
    clear hK K
    refine wk_seq fun K hK => ?_
    refine wk_reg ?_
    refine a_asg ?_
    refine o_nil (hK _ _ ?_)
    refine wk_ret (retQ_tmp1 Tryz.results41 (by decide) rfl (by conv => lhs; whnf) ?_)
    rw [hoe, hpre]
    exact ⟨rfl, hx1.trans hx⟩
set_option maxHeartbeats 2000000 in
theorem validR_calls {s : Sn} {w : World} {kv : Value} (hd : dep s ≤ 1000000) (hfit : fitS s) (hk : KA w s.kids kv) : Calls Tryz.prog 19 #[.agg (snL s kv).toArray] w (fun e w' => ∃ v, e = .returned v ∧ v = .bool (validB s) ∧ Ext w w') := by
  obtain ⟨ka, kc, rfl, -⟩ := hk.shape
  have hve : validB s = (decide (cnt s ≤ 200) && decide (dep s ≤ 20) && okB s) := by
    unfold validB
    rw [Bool.eq_iff_iff]
    simp only [decide_eq_true_eq, Bool.and_eq_true]
    unfold Valid Proper
    constructor
    · rintro ⟨h1, h2, h3⟩; exact ⟨⟨by omega, h2⟩, h3⟩
    · rintro ⟨⟨h1, h2⟩, h3⟩; exact ⟨by omega, h2, h3⟩
  refine calls_of Tryz.func19 rfl Tryz.ntmps19 rfl ?_
  refine wk_seq fun K hK => ?_
  refine wk_reg ?_
  refine o_box (LH.start w (fun _ => False)) (snL s (.slice ka s.kids.length kc)) rfl rfl rfl ?_
  intro b2 w1 hb2 hl
  have hr : Row w1 b2 0 (snL s (.slice ka s.kids.length kc)) := hl.rowL (vs := snL s (.slice ka s.kids.length kc)) 0 0 4 rfl
  have hx1 := hl.done
  clear hl
  refine a_asg ?_
  refine o_nil (hK _ _ ?_)
  clear hK K
  refine wk_seq fun K hK => ?_
  refine wk_reg ?_
  refine a_all hr ?_
  refine a_fn (size_calls s w1 (.slice ka s.kids.length kc) hd ((fitS_eq s).1 hfit).2.1 hfit (hk.ext hx1)) ?_
  rintro _ w2 ⟨c, rfl, h1, h2, h3, h4, hx2⟩
  by_cases hc : c ≤ 200
  · have hcn := h3 hc
    have hc2 : cnt s ≤ 200 := by omega
    rw [decide_eq_true hc2, Bool.true_and] at hve
    repeat' (first | refine a_mov ?_ | refine a_asg ?_ | refine a_binN ?_ | refine a_notd ?_ | refine a_notb ?_ | refine a_nilc ?_ | refine a_fa ?_ | refine a_ext ?_ | refine a_lenv ?_ | refine a_lens ?_ | refine a_pick_t ?_ | refine a_pick_f ?_ | refine a_not ?_ | refine a_nilf ?_ | (refine a_bin ?_ ?_ <;> intro _ <;> try (exfalso; omega)) | refine a_ld hl ?_ | (refine a_st hl ?_; clear hl; intro _ hl) | refine a_ix (fun _ => ?_) | fail)
    refine a_all (hr.ext hx2) ?_
    refine a_fn (depth_calls s w2 (.slice ka s.kids.length kc) hd hfit ((hk.ext hx1).ext hx2)) ?_
    rintro _ w3 ⟨rfl, hx3⟩
    by_cases hdd : dep s ≤ 20
    · rw [decide_eq_true hdd, Bool.true_and] at hve
      repeat' (first | refine a_mov ?_ | refine a_asg ?_ | refine a_binN ?_ | refine a_notd ?_ | refine a_notb ?_ | refine a_nilc ?_ | refine a_fa ?_ | refine a_ext ?_ | refine a_lenv ?_ | refine a_lens ?_ | refine a_pick_t ?_ | refine a_pick_f ?_ | refine a_not ?_ | refine a_nilf ?_ | (refine a_bin ?_ ?_ <;> intro _ <;> try (exfalso; omega)) | refine a_ld hl ?_ | (refine a_st hl ?_; clear hl; intro _ hl) | refine a_ix (fun _ => ?_) | fail)
      refine a_all ((hr.ext hx2).ext hx3) ?_
      refine a_fn (node_calls s w3 (.slice ka s.kids.length kc) hfit (((hk.ext hx1).ext hx2).ext hx3)) ?_
      rintro _ w4 ⟨rfl, hx4⟩
      repeat' (first | refine a_mov ?_ | refine a_asg ?_ | refine a_binN ?_ | refine a_notd ?_ | refine a_notb ?_ | refine a_nilc ?_ | refine a_fa ?_ | refine a_ext ?_ | refine a_lenv ?_ | refine a_lens ?_ | refine a_pick_t ?_ | refine a_pick_f ?_ | refine a_not ?_ | refine a_nilf ?_ | (refine a_bin ?_ ?_ <;> intro _ <;> try (exfalso; omega)) | refine a_ld hl ?_ | (refine a_st hl ?_; clear hl; intro _ hl) | refine a_ix (fun _ => ?_) | fail)
      refine o_nil (hK _ _ ?_)
      refine wk_ret (retQ_tmp1 Tryz.results19 (by decide) rfl (by conv => lhs; whnf) ?_)
      rw [hve]
      exact ⟨rfl, ((hx1.trans hx2).trans hx3).trans hx4⟩
    · rw [decide_eq_false hdd] at hve
      repeat' (first | refine a_mov ?_ | refine a_asg ?_ | refine a_binN ?_ | refine a_notd ?_ | refine a_notb ?_ | refine a_nilc ?_ | refine a_fa ?_ | refine a_ext ?_ | refine a_lenv ?_ | refine a_lens ?_ | refine a_pick_t ?_ | refine a_pick_f ?_ | refine a_not ?_ | refine a_nilf ?_ | (refine a_bin ?_ ?_ <;> intro _ <;> try (exfalso; omega)) | refine a_ld hl ?_ | (refine a_st hl ?_; clear hl; intro _ hl) | refine a_ix (fun _ => ?_) | fail)
      refine o_nil (hK _ _ ?_)
      refine wk_ret (retQ_tmp1 Tryz.results19 (by decide) rfl (by conv => lhs; whnf) ?_)
      rw [hve]
      exact ⟨rfl, (hx1.trans hx2).trans hx3⟩
  · have hcn := h4 (by omega)
    have hc2 : ¬ cnt s ≤ 200 := by omega
    rw [decide_eq_false hc2] at hve
    repeat' (first | refine a_mov ?_ | refine a_asg ?_ | refine a_binN ?_ | refine a_notd ?_ | refine a_notb ?_ | refine a_nilc ?_ | refine a_fa ?_ | refine a_ext ?_ | refine a_lenv ?_ | refine a_lens ?_ | refine a_pick_t ?_ | refine a_pick_f ?_ | refine a_not ?_ | refine a_nilf ?_ | (refine a_bin ?_ ?_ <;> intro _ <;> try (exfalso; omega)) | refine a_ld hl ?_ | (refine a_st hl ?_; clear hl; intro _ hl) | refine a_ix (fun _ => ?_) | fail)
    refine o_nil (hK _ _ ?_)
    refine wk_ret (retQ_tmp1 Tryz.results19 (by decide) rfl (by conv => lhs; whnf) ?_)
    rw [hve]
    exact ⟨rfl, hx1.trans hx2⟩
end Go.Proofs
