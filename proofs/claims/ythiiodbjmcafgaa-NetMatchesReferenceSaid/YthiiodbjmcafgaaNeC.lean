/-
  A network: slices.DeleteFunc.
-/
import Derived.Test.YthiiodbjmcafgaaNeB
set_option linter.unusedVariables false
set_option linter.unusedSimpArgs false
set_option linter.unnecessarySimpa false
set_option maxRecDepth 10000
namespace Go.Proofs
open Go Go.Pd Go.Ne
attribute [local irreducible] OpsL W RetQ OpsQ OpsC

abbrev notin (gl : List Tx) : Tx → Bool := fun t => decide (t ∉ gl)
theorem idxG_cases (gl l : List Tx) : (idxG gl l 0 = -1 ∧ ∀ j (hj : j < l.length), l[j] ∉ gl) ∨ ∃ k, ∃ hk : k < l.length, idxG gl l 0 = (k : Int) ∧ l[k] ∈ gl ∧ ∀ j (hj : j < l.length), j < k → l[j] ∉ gl := by
  by_cases h : ∀ j (hj : j < l.length), l[j] ∉ gl
  · exact .inl ⟨idxG_none h, h⟩
  · right
    have h1 : ∃ j, ∃ hj : j < l.length, l[j] ∈ gl := by
      apply Classical.byContradiction
      intro hn
      exact h fun j hj hm => hn ⟨j, hj, hm⟩
    obtain ⟨j, hj⟩ := h1
    induction j using Nat.strongRecOn with
    | _ j ih =>
      obtain ⟨hj1, hj2⟩ := hj
      by_cases hb : ∃ i, i < j ∧ ∃ hi : i < l.length, l[i] ∈ gl
      · obtain ⟨i, hij, hi⟩ := hb
        exact ih i hij hi
      · have hno : ∀ i (hi : i < l.length), i < j → l[i] ∉ gl := fun i hi hij hm => hb ⟨i, hij, hi, hm⟩
        exact ⟨j, hj1, by rw [idxG_hit hj1 hno hj2, Nat.zero_add], hj2, hno⟩
theorem filter_take_succ {gl l : List Tx} {j : Nat} (hj : j < l.length) : (l.take (j + 1)).filter (notin gl) = (l.take j).filter (notin gl) ++ (if l[j] ∈ gl then [] else [l[j]]) := by
  rw [List.take_succ_eq_append_getElem hj, List.filter_append]
  congr 1
  by_cases h : l[j] ∈ gl
  · simp [notin, h]
  · simp [notin, h]

set_option maxHeartbeats 2000000 in
theorem del_calls {pb gb : Nat} {es : Array MapEntry} {c : Nat} {gl l : List Tx} {v : Value} {acc : List (Nat × Obj)} {w : World} (hl : Own w acc) (ha : Acc v 1 9 l.length (strL l) acc) (hlen : l.length ≤ 1000000) (hp : Row w pb 2 [.map (some gb)]) (hg : w.heap[gb]? = some (.map es c)) (hm : MapR str es (boolM gl))
    (hpn : ¬ Go.Pd.In acc pb) (hgn : ¬ Go.Pd.In acc gb) :
    Calls Try.prog 39 #[v, .func (.func 40) #[] #[.pointer (some ⟨pb, 0, none⟩)]] w (fun e w' => ∃ x, e = .returned x ∧ ∃ acc', LH w (Go.Pd.In acc) w' acc' ∧ Acc x 1 9 (l.filter (notin gl)).length (strL (l.filter (notin gl))) acc') := by
  have hv : Sl w v 1 (strL l) := LH.acc_sl (l := []) hl ha
  obtain ⟨pa, ca, rfl, -⟩ := hv.shape (strL_len l) (by omega)
  have hgs : gb < w.heap.size := (Array.getElem?_eq_some_iff.1 hg).1
  refine calls_of Try.func39 rfl Try.ntmps39 rfl ?_
  repeat' (first | refine a_mov ?_ | refine a_asg ?_ | refine a_binN ?_ | refine a_notd ?_ | refine a_notb ?_ | refine a_nilc ?_ | refine a_fa ?_ | refine a_ext ?_ | refine a_lenv ?_ | refine a_lens ?_ | refine a_pick_t ?_ | refine a_pick_f ?_ | refine a_not ?_ | refine a_nilf ?_ | (refine o_nil (hK _ _ ?_); clear hK K) | refine wk_reg ?_ | refine wk_seq fun K hK => ?_ | (refine wk_skip (hK _ _ ?_); clear hK K) | (refine wk_label (hK _ _ ?_); clear hK K) | refine wk_scope ?_ | refine wk_block ?_ | refine wk_cond_t rfl ?_ | refine wk_cond_f rfl ?_ | (refine wk_exit ?_; (repeat (refine blockK_other rfl ?_)); refine blockK_same ?_; try ((repeat ((fail_if_success (refine hK _ _ ?_)); clear hK K)); refine hK _ _ ?_; clear hK K)) | (refine a_bin ?_ ?_ <;> intro _ <;> try (exfalso; omega)) | refine a_ld hl ?_ | (refine a_st hl ?_; clear hl; intro _ hl) | refine a_ix (fun _ => ?_) | fail)
  refine a_fn (idxS_calls hv hlen hp hg hm) ?_
  rintro _ w1 ⟨rfl, rfl⟩
  rcases idxG_cases gl l with ⟨e, hall⟩ | ⟨k, hk, e, hin, hno⟩
  · rw [e]
    repeat' (first | refine a_mov ?_ | refine a_asg ?_ | refine a_binN ?_ | refine a_notd ?_ | refine a_notb ?_ | refine a_nilc ?_ | refine a_fa ?_ | refine a_ext ?_ | refine a_lenv ?_ | refine a_lens ?_ | refine a_pick_t ?_ | refine a_pick_f ?_ | refine a_not ?_ | refine a_nilf ?_ | (refine o_nil (hK _ _ ?_); clear hK K) | refine wk_reg ?_ | refine wk_seq fun K hK => ?_ | (refine wk_skip (hK _ _ ?_); clear hK K) | (refine wk_label (hK _ _ ?_); clear hK K) | refine wk_scope ?_ | refine wk_block ?_ | refine wk_cond_t rfl ?_ | refine wk_cond_f rfl ?_ | (refine wk_exit ?_; (repeat (refine blockK_other rfl ?_)); refine blockK_same ?_; try ((repeat ((fail_if_success (refine hK _ _ ?_)); clear hK K)); refine hK _ _ ?_; clear hK K)) | (refine a_bin ?_ ?_ <;> intro _ <;> try (exfalso; omega)) | refine a_ld hl ?_ | (refine a_st hl ?_; clear hl; intro _ hl) | refine a_ix (fun _ => ?_) | fail)
    refine wk_ret (retQ_tmp1 Try.results39 (by decide) rfl (by conv => lhs; whnf) ?_)
    have hf : l.filter (notin gl) = l := List.filter_eq_self.2 fun t ht => by
      obtain ⟨j, hj, rfl⟩ := List.mem_iff_getElem.1 ht
      exact decide_eq_true (hall j hj)
    rw [hf]
    exact ⟨acc, hl, ha⟩
  · rw [e]
    repeat' (first | refine a_mov ?_ | refine a_asg ?_ | refine a_binN ?_ | refine a_notd ?_ | refine a_notb ?_ | refine a_nilc ?_ | refine a_fa ?_ | refine a_ext ?_ | refine a_lenv ?_ | refine a_lens ?_ | refine a_pick_t ?_ | refine a_pick_f ?_ | refine a_not ?_ | refine a_nilf ?_ | (refine o_nil (hK _ _ ?_); clear hK K) | refine wk_reg ?_ | refine wk_seq fun K hK => ?_ | (refine wk_skip (hK _ _ ?_); clear hK K) | (refine wk_label (hK _ _ ?_); clear hK K) | refine wk_scope ?_ | refine wk_block ?_ | refine wk_cond_t rfl ?_ | refine wk_cond_f rfl ?_ | (refine wk_exit ?_; (repeat (refine blockK_other rfl ?_)); refine blockK_same ?_; try ((repeat ((fail_if_success (refine hK _ _ ?_)); clear hK K)); refine hK _ _ ?_; clear hK K)) | (refine a_bin ?_ ?_ <;> intro _ <;> try (exfalso; omega)) | refine a_ld hl ?_ | (refine a_st hl ?_; clear hl; intro _ hl) | refine a_ix (fun _ => ?_) | fail)
    rcases ha.2 with ⟨-, h0, -⟩ | ⟨b, cap, cur, hb, rfl, hcap, hmax, hsz, htk⟩
    · omega
    · cases hb
      rw [Nat.mul_one] at hsz htk
      have htl : (l.take k).filter (notin gl) = l.take k := List.filter_eq_self.2 fun t ht => by
        obtain ⟨j, hj, rfl⟩ := List.mem_iff_getElem.1 ht
        rw [List.length_take] at hj
        rw [List.getElem_take]
        exact decide_eq_true (hno j (by omega) (by omega))
      have hf1 : (l.take (k + 1)).filter (notin gl) = l.take k := by
        rw [filter_take_succ hk, htl, if_pos hin, List.append_nil]
      refine wk_loopH [] rfl (fun q : Nat × Nat × List Value => [(0, .slice (some ⟨b, 0, none⟩) l.length ca), (1, .func (.func 40) #[] #[.pointer (some ⟨pb, 0, none⟩)]), (5, .int .i64 (q.1 : Int)), (6, .int .i64 (q.2.1 : Int))])
        (fun q w' => (q.1 < q.2.1 ∧ q.2.1 ≤ l.length ∧ q.2.2.length = ca ∧ q.1 = ((l.take q.2.1).filter (notin gl)).length ∧ q.2.2.take q.1 = strL ((l.take q.2.1).filter (notin gl)) ∧ ∀ j (hj : j < l.length), q.2.1 ≤ j → q.2.2[j]? = some (str l[j])) ∧ LH w1 (Go.Pd.In [(b, .cells cur 9 (0, 0))]) w' [(b, .cells q.2.2.toArray 9 (0, 0))]) (fun q => l.length - q.2.1) (k, k + 1, cur.toList) ⟨rfl, rfl, rfl, rfl, trivial⟩ ⟨⟨?_, ?_, ?_, ?_, ?_, ?_⟩, ?_⟩ ?_
      · show k < k + 1; omega
      · show k + 1 ≤ l.length; omega
      · show cur.toList.length = ca; simpa using hsz
      · show k = _
        rw [hf1, List.length_take]; omega
      · show cur.toList.take k = _
        rw [hf1]
        have := congrArg (List.take k) htk
        rw [List.take_take, Nat.min_eq_left (by omega)] at this
        rw [this]; exact List.map_take.symm
      · intro j hj _
        have : (cur.toList.take l.length)[j]? = (strL l)[j]? := by rw [htk]
        rw [List.getElem?_take, if_pos hj] at this
        rw [this]
        simp [hj]
      · exact hl
      · rintro ⟨i, j, vs⟩ t w2 ⟨⟨h1, h2, h3, h4, h5, h6⟩, hl2⟩
        have h1 : i < j := h1
        have h2 : j ≤ l.length := h2
        have h3 : vs.length = ca := h3
        have h4 : i = ((l.take j).filter (notin gl)).length := h4
        have h5 : vs.take i = strL ((l.take j).filter (notin gl)) := h5
        have h6 : ∀ q (hq : q < l.length), j ≤ q → vs[q]? = some (str l[q]) := h6
        dsimp only
        by_cases hj : j < l.length
        · have hrow : Row w2 b (0 + j * 1) [str l[j]] := by
            intro q u hq
            cases q with
            | zero =>
              simp at hq
              subst hq
              exact hl2.cellL 0 rfl (by rw [Nat.zero_add, Nat.mul_one, Nat.add_zero]; exact h6 j hj (Nat.le_refl _))
            | succ q => simp at hq
          repeat' (first | refine a_mov ?_ | refine a_asg ?_ | refine a_binN ?_ | refine a_notd ?_ | refine a_notb ?_ | refine a_nilc ?_ | refine a_fa ?_ | refine a_ext ?_ | refine a_lenv ?_ | refine a_lens ?_ | refine a_pick_t ?_ | refine a_pick_f ?_ | refine a_not ?_ | refine a_nilf ?_ | (refine o_nil (hK _ _ ?_); clear hK K) | refine wk_reg ?_ | refine wk_seq fun K hK => ?_ | (refine wk_skip (hK _ _ ?_); clear hK K) | (refine wk_label (hK _ _ ?_); clear hK K) | refine wk_scope ?_ | refine wk_block ?_ | refine wk_cond_t rfl ?_ | refine wk_cond_f rfl ?_ | (refine wk_exit ?_; (repeat (refine blockK_other rfl ?_)); refine blockK_same ?_; try ((repeat ((fail_if_success (refine hK _ _ ?_)); clear hK K)); refine hK _ _ ?_; clear hK K)) | (refine a_bin ?_ ?_ <;> intro _ <;> try (exfalso; omega)) | refine a_ld hl ?_ | (refine a_st hl ?_; clear hl; intro _ hl) | refine a_ix (fun _ => ?_) | refine a_idx (c := 1) j rfl ?_ | refine a_row hrow ?_)
          refine a_fc #[str l[j]] #[.pointer (some ⟨pb, 0, none⟩)] _ rfl (lacks1_calls l[j] (hp.upd hl2.upd hpn) ((hl2.upd.same gb hgs hgn).trans hg) hm) ?_
          rintro _ w3 ⟨rfl, rfl⟩
          by_cases hd : l[j] ∈ gl
          · rw [decide_eq_true hd]
            repeat' (first | refine a_mov ?_ | refine a_asg ?_ | refine a_binN ?_ | refine a_notd ?_ | refine a_notb ?_ | refine a_nilc ?_ | refine a_fa ?_ | refine a_ext ?_ | refine a_lenv ?_ | refine a_lens ?_ | refine a_pick_t ?_ | refine a_pick_f ?_ | refine a_not ?_ | refine a_nilf ?_ | (refine o_nil (hK _ _ ?_); clear hK K) | refine wk_reg ?_ | refine wk_seq fun K hK => ?_ | (refine wk_skip (hK _ _ ?_); clear hK K) | (refine wk_label (hK _ _ ?_); clear hK K) | refine wk_scope ?_ | refine wk_block ?_ | refine wk_cond_t rfl ?_ | refine wk_cond_f rfl ?_ | (refine wk_exit ?_; (repeat (refine blockK_other rfl ?_)); refine blockK_same ?_; try ((repeat ((fail_if_success (refine hK _ _ ?_)); clear hK K)); refine hK _ _ ?_; clear hK K)) | (refine a_bin ?_ ?_ <;> intro _ <;> try (exfalso; omega)) | refine a_ld hl ?_ | (refine a_st hl ?_; clear hl; intro _ hl) | refine a_ix (fun _ => ?_) | fail)
            refine o_nil ⟨(i, j + 1, vs), ⟨rfl, rfl, rfl, rfl, trivial⟩, rfl, ⟨⟨?_, hj, h3, ?_, ?_, ?_⟩, hl2⟩, ?_⟩
            · show i < j + 1; omega
            · show i = _
              rw [filter_take_succ hj, if_pos hd, List.append_nil]; exact h4
            · show vs.take i = _
              rw [filter_take_succ hj, if_pos hd, List.append_nil]; exact h5
            · intro q hq hjq; exact h6 q hq (by have : j + 1 ≤ q := hjq; omega)
            · show l.length - (j + 1) < l.length - j; omega
          · rw [decide_eq_false hd]
            repeat' (first | refine a_mov ?_ | refine a_asg ?_ | refine a_binN ?_ | refine a_notd ?_ | refine a_notb ?_ | refine a_nilc ?_ | refine a_fa ?_ | refine a_ext ?_ | refine a_lenv ?_ | refine a_lens ?_ | refine a_pick_t ?_ | refine a_pick_f ?_ | refine a_not ?_ | refine a_nilf ?_ | (refine o_nil (hK _ _ ?_); clear hK K) | refine wk_reg ?_ | refine wk_seq fun K hK => ?_ | (refine wk_skip (hK _ _ ?_); clear hK K) | (refine wk_label (hK _ _ ?_); clear hK K) | refine wk_scope ?_ | refine wk_block ?_ | refine wk_cond_t rfl ?_ | refine wk_cond_f rfl ?_ | (refine wk_exit ?_; (repeat (refine blockK_other rfl ?_)); refine blockK_same ?_; try ((repeat ((fail_if_success (refine hK _ _ ?_)); clear hK K)); refine hK _ _ ?_; clear hK K)) | (refine a_bin ?_ ?_ <;> intro _ <;> try (exfalso; omega)) | refine a_ld hl ?_ | (refine a_st hl ?_; clear hl; intro _ hl) | refine a_ix (fun _ => ?_) | refine a_idx (c := 1) i rfl ?_)
            refine o_put1 (v := str l[j]) hl2 rfl rfl rfl (cell1_str _) rfl (.here (vs := vs) (blt_t (by omega)) rfl) ?_
            intro w3 hl3
            repeat' (first | refine a_mov ?_ | refine a_asg ?_ | refine a_binN ?_ | refine a_notd ?_ | refine a_notb ?_ | refine a_nilc ?_ | refine a_fa ?_ | refine a_ext ?_ | refine a_lenv ?_ | refine a_lens ?_ | refine a_pick_t ?_ | refine a_pick_f ?_ | refine a_not ?_ | refine a_nilf ?_ | (refine o_nil (hK _ _ ?_); clear hK K) | refine wk_reg ?_ | refine wk_seq fun K hK => ?_ | (refine wk_skip (hK _ _ ?_); clear hK K) | (refine wk_label (hK _ _ ?_); clear hK K) | refine wk_scope ?_ | refine wk_block ?_ | refine wk_cond_t rfl ?_ | refine wk_cond_f rfl ?_ | (refine wk_exit ?_; (repeat (refine blockK_other rfl ?_)); refine blockK_same ?_; try ((repeat ((fail_if_success (refine hK _ _ ?_)); clear hK K)); refine hK _ _ ?_; clear hK K)) | (refine a_bin ?_ ?_ <;> intro _ <;> try (exfalso; omega)) | refine a_ld hl ?_ | (refine a_st hl ?_; clear hl; intro _ hl) | refine a_ix (fun _ => ?_) | fail)
            refine o_nil ⟨(i + 1, j + 1, vs.set i (str l[j])), ⟨rfl, rfl, rfl, rfl, trivial⟩, rfl, ⟨⟨?_, hj, ?_, ?_, ?_, ?_⟩, ?_⟩, ?_⟩
            · show i + 1 < j + 1; omega
            · show (vs.set i (str l[j])).length = ca
              rw [List.length_set]; exact h3
            · show i + 1 = _
              rw [filter_take_succ hj, if_neg hd, List.length_append, ← h4]; rfl
            · show (vs.set i (str l[j])).take (i + 1) = _
              rw [filter_take_succ hj, if_neg hd, strL, List.map_append]
              rw [show List.map str ((l.take j).filter (notin gl)) = strL ((l.take j).filter (notin gl)) from rfl, ← h5]
              rw [List.take_succ_eq_append_getElem (by rw [List.length_set]; omega), List.take_set_of_le (Nat.le_refl _), List.getElem_set_self]
              rfl
            · intro q hq hjq
              have hjq : j + 1 ≤ q := hjq
              show (vs.set i (str l[j]))[q]? = _
              rw [List.getElem?_set_ne (by omega)]
              exact h6 q hq (by omega)
            · show LH w1 _ w3 [(b, .cells (vs.set i (str l[j])).toArray 9 (0, 0))]
              simpa only [Nat.zero_add, Nat.mul_one] using hl3
            · show l.length - (j + 1) < l.length - j; omega
        · obtain rfl : j = l.length := by omega
          rw [List.take_length] at h4 h5
          repeat' (first | refine a_mov ?_ | refine a_asg ?_ | refine a_binN ?_ | refine a_notd ?_ | refine a_notb ?_ | refine a_nilc ?_ | refine a_fa ?_ | refine a_ext ?_ | refine a_lenv ?_ | refine a_lens ?_ | refine a_pick_t ?_ | refine a_pick_f ?_ | refine a_not ?_ | refine a_nilf ?_ | (refine o_nil (hK _ _ ?_); clear hK K) | refine wk_reg ?_ | refine wk_seq fun K hK => ?_ | (refine wk_skip (hK _ _ ?_); clear hK K) | (refine wk_label (hK _ _ ?_); clear hK K) | refine wk_scope ?_ | refine wk_block ?_ | refine wk_cond_t rfl ?_ | refine wk_cond_f rfl ?_ | (refine wk_exit ?_; (repeat (refine blockK_other rfl ?_)); refine blockK_same ?_; try ((repeat ((fail_if_success (refine hK _ _ ?_)); clear hK K)); refine hK _ _ ?_; clear hK K)) | (refine a_bin ?_ ?_ <;> intro _ <;> try (exfalso; omega)) | refine a_ld hl ?_ | (refine a_st hl ?_; clear hl; intro _ hl) | refine a_ix (fun _ => ?_) | fail)
          have hcl : cutLv (some ⟨b, 0, none⟩) l.length ca 1 i = .slice (some ⟨b, i, none⟩) (l.length - i) (ca - i) := by
            unfold cutLv
            rw [if_neg (by omega)]
            simp only [Option.map_some, add_mk, Nat.mul_one, Nat.zero_add]
          refine o_pur (v := .slice (some ⟨b, i, none⟩) (l.length - i) (ca - i)) rfl (fun w => by rw [← hcl]; exact r_slcL (e := 9) rfl rfl hcap (by omega) rfl rfl rfl w) ?_
          refine o_clear (E := 9) (i := 0) (vs := vs) hl2 rfl (by omega) rfl rfl rfl rfl rfl rfl ?_
          intro w3 vs' hl3 h7 h8
          repeat' (first | refine a_mov ?_ | refine a_asg ?_ | refine a_binN ?_ | refine a_notd ?_ | refine a_notb ?_ | refine a_nilc ?_ | refine a_fa ?_ | refine a_ext ?_ | refine a_lenv ?_ | refine a_lens ?_ | refine a_pick_t ?_ | refine a_pick_f ?_ | refine a_not ?_ | refine a_nilf ?_ | (refine o_nil (hK _ _ ?_); clear hK K) | refine wk_reg ?_ | refine wk_seq fun K hK => ?_ | (refine wk_skip (hK _ _ ?_); clear hK K) | (refine wk_label (hK _ _ ?_); clear hK K) | refine wk_scope ?_ | refine wk_block ?_ | refine wk_cond_t rfl ?_ | refine wk_cond_f rfl ?_ | (refine wk_exit ?_; (repeat (refine blockK_other rfl ?_)); refine blockK_same ?_; try ((repeat ((fail_if_success (refine hK _ _ ?_)); clear hK K)); refine hK _ _ ?_; clear hK K)) | (refine a_bin ?_ ?_ <;> intro _ <;> try (exfalso; omega)) | refine a_ld hl ?_ | (refine a_st hl ?_; clear hl; intro _ hl) | refine a_ix (fun _ => ?_) | fail)
          have hch : cutHv (some ⟨b, 0, none⟩) ca 1 i = .slice (some ⟨b, 0, none⟩) i ca := by
            unfold cutHv
            rw [if_neg (by omega)]
            simp only [Option.map_some, add_mk, Nat.mul_one, Nat.zero_add, Nat.sub_zero]
          refine o_pur (v := .slice (some ⟨b, 0, none⟩) i ca) rfl (fun w => by rw [← hch]; exact r_slcH (e := 9) rfl rfl hcap (by omega) rfl rfl rfl w) ?_
          repeat' (first | refine a_mov ?_ | refine a_asg ?_ | refine a_binN ?_ | refine a_notd ?_ | refine a_notb ?_ | refine a_nilc ?_ | refine a_fa ?_ | refine a_ext ?_ | refine a_lenv ?_ | refine a_lens ?_ | refine a_pick_t ?_ | refine a_pick_f ?_ | refine a_not ?_ | refine a_nilf ?_ | (refine o_nil (hK _ _ ?_); clear hK K) | refine wk_reg ?_ | refine wk_seq fun K hK => ?_ | (refine wk_skip (hK _ _ ?_); clear hK K) | (refine wk_label (hK _ _ ?_); clear hK K) | refine wk_scope ?_ | refine wk_block ?_ | refine wk_cond_t rfl ?_ | refine wk_cond_f rfl ?_ | (refine wk_exit ?_; (repeat (refine blockK_other rfl ?_)); refine blockK_same ?_; try ((repeat ((fail_if_success (refine hK _ _ ?_)); clear hK K)); refine hK _ _ ?_; clear hK K)) | (refine a_bin ?_ ?_ <;> intro _ <;> try (exfalso; omega)) | refine a_ld hl ?_ | (refine a_st hl ?_; clear hl; intro _ hl) | refine a_ix (fun _ => ?_) | fail)
          refine wk_ret (retQ_tmp1 Try.results39 (by decide) rfl (by conv => lhs; whnf) ?_)
          refine ⟨_, hl3, strL_len _, .inr ⟨b, ca, vs'.toArray, by rw [h4], rfl, by rw [← h4]; omega, hmax, ?_, ?_⟩⟩
          · simp only [List.size_toArray]; omega
          · simp only [Nat.mul_one]
            rw [← h4, ← h5]; exact h8
end Go.Proofs
