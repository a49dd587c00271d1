/-
  The reference's network: Deliver.
-/
import Derived.Test.YthiiodbjmcafgaaNrF
set_option linter.unusedVariables false
set_option linter.unusedSimpArgs false
set_option linter.unnecessarySimpa false
set_option maxRecDepth 10000
namespace Go.Proofs
open Go Go.Pd Go.Ne
attribute [local irreducible] OpsL W RetQ OpsQ OpsC
abbrev zeroN : List Value := [.slice none 0 0, .slice none 0 0, .slice none 0 0, .slice none 0 0]
def msgB (b : Nat) (q : Value × Msg) : Nat × Obj := (b, .cells (msgC q).toArray 87 (0, 0))
/-- The oldest message, out of the queue if it does not stay. -/
def after1 (s : Net) (a b : Nat) (stay : Bool) (ms : List Msg) : Net := if stay then s else { s with q := upd2 s.q a b ms }

set_option maxHeartbeats 4000000 in
theorem deliverR_calls {Y : Nat → Prop} {s : Net} {p : Nat} {bl : List (Nat × Obj)} {w : World} (h : RefR Y s p bl w) (a b : Nat) (lost again : Bool) (hbd : Bd s) (hgl : ∀ a b, ((s.node a).peer b).got.length ≤ 100000) :
    Calls Try.prog 18 #[.pointer (some ⟨p, 0, none⟩), .int .i64 (a : Int), .int .i64 (b : Int), .bool lost, .bool again] w (fun e w' => ∃ v, e = .returned v ∧ v = .bool (delivB s a b) ∧ AftR Y (deliver s a b lost again) p bl w w') := by
  have hR := h
  obtain ⟨R, rfl, rfl, rfl, hok, hown⟩ := h
  have hsame : ∀ {w'}, Ext w w' → delivB s a b = false → AftR R.Y (deliver s a b lost again) R.p (R.bl s.n) w w' := fun e hne => by
    have : deliver s a b lost again = s := by unfold deliver; rw [hne]; rfl
    rw [this]; exact AftR.same hR e
  refine calls_of Try.func18 rfl Try.ntmps18 rfl ?_
  refine wk_seq fun K hK => ?_
  refine wk_reg ?_
  repeat' (first | refine a_mov ?_ | refine a_asg ?_ | refine a_binN ?_ | refine a_notd ?_ | refine a_notb ?_ | refine a_nilc ?_ | refine a_fa ?_ | refine a_ext ?_ | refine a_lenv ?_ | refine a_lens ?_ | refine a_pick_t ?_ | refine a_pick_f ?_ | refine a_not ?_ | refine a_nilf ?_ | (refine a_bin ?_ ?_ <;> intro _ <;> try (exfalso; omega)) | refine a_ld hl ?_ | (refine a_st hl ?_; clear hl; intro _ hl) | refine a_ix (fun _ => ?_) | fail)
  refine o_nil (hK _ _ ?_)
  clear hK K
  refine wk_seq fun K hK => ?_
  refine wk_cut [] (fun _ : Unit => [(0, .pointer (some ⟨R.p, 0, none⟩)), (1, .int .i64 (a : Int)), (2, .int .i64 (b : Int)), (3, .bool lost), (4, .bool again)]) (fun _ w' => delivB s a b = true ∧ Ext w w') ?_ ?_
  · clear hK K
    repeat' (first | refine a_mov ?_ | refine a_asg ?_ | refine a_binN ?_ | refine a_notd ?_ | refine a_notb ?_ | refine a_nilc ?_ | refine a_fa ?_ | refine a_ext ?_ | refine a_lenv ?_ | refine a_lens ?_ | refine a_pick_t ?_ | refine a_pick_f ?_ | refine a_not ?_ | refine a_nilf ?_ | (refine o_nil (hK _ _ ?_); clear hK K) | refine wk_reg ?_ | refine wk_seq fun K hK => ?_ | (refine wk_skip (hK _ _ ?_); clear hK K) | (refine wk_label (hK _ _ ?_); clear hK K) | refine wk_scope ?_ | refine wk_block ?_ | refine wk_cond_t rfl ?_ | refine wk_cond_f rfl ?_ | (refine wk_exit ?_; (repeat (refine blockK_other rfl ?_)); refine blockK_same ?_; try ((repeat ((fail_if_success (refine hK _ _ ?_)); clear hK K)); refine hK _ _ ?_; clear hK K)) | (refine a_bin ?_ ?_ <;> intro _ <;> try (exfalso; omega)) | refine a_ld hl ?_ | (refine a_st hl ?_; clear hl; intro _ hl) | refine a_ix (fun _ => ?_) | fail)
    refine a_fn (pairR_calls (s := s) (RefB.r0 hown) a b) ?_
    rintro _ w1 ⟨rfl, he1⟩
    cases hp : pair s a b
    · repeat' (first | refine a_mov ?_ | refine a_asg ?_ | refine a_binN ?_ | refine a_notd ?_ | refine a_notb ?_ | refine a_nilc ?_ | refine a_fa ?_ | refine a_ext ?_ | refine a_lenv ?_ | refine a_lens ?_ | refine a_pick_t ?_ | refine a_pick_f ?_ | refine a_not ?_ | refine a_nilf ?_ | (refine o_nil (hK _ _ ?_); clear hK K) | refine wk_reg ?_ | refine wk_seq fun K hK => ?_ | (refine wk_skip (hK _ _ ?_); clear hK K) | (refine wk_label (hK _ _ ?_); clear hK K) | refine wk_scope ?_ | refine wk_block ?_ | refine wk_cond_t rfl ?_ | refine wk_cond_f rfl ?_ | (refine wk_exit ?_; (repeat (refine blockK_other rfl ?_)); refine blockK_same ?_; try ((repeat ((fail_if_success (refine hK _ _ ?_)); clear hK K)); refine hK _ _ ?_; clear hK K)) | (refine a_bin ?_ ?_ <;> intro _ <;> try (exfalso; omega)) | refine a_ld hl ?_ | (refine a_st hl ?_; clear hl; intro _ hl) | refine a_ix (fun _ => ?_) | fail)
      refine wk_ret (retQ_tmp1 Try.results18 (by decide) rfl (by conv => lhs; whnf) ?_)
      have hE : delivB s a b = false := by unfold delivB; rw [hp]; rfl
      exact ⟨by rw [hE], hsame he1 hE⟩
    · obtain ⟨ha, hb, hab⟩ := of_decide_eq_true hp
      have hown1 := hown.ext he1
      have hC := RefB.rC hown1 ha hb
      rw [hok.c a b ha hb] at hC
      repeat' (first | refine a_mov ?_ | refine a_asg ?_ | refine a_binN ?_ | refine a_notd ?_ | refine a_notb ?_ | refine a_nilc ?_ | refine a_fa ?_ | refine a_ext ?_ | refine a_lenv ?_ | refine a_lens ?_ | refine a_pick_t ?_ | refine a_pick_f ?_ | refine a_not ?_ | refine a_nilf ?_ | (refine o_nil (hK _ _ ?_); clear hK K) | refine wk_reg ?_ | refine wk_seq fun K hK => ?_ | (refine wk_skip (hK _ _ ?_); clear hK K) | (refine wk_label (hK _ _ ?_); clear hK K) | refine wk_scope ?_ | refine wk_block ?_ | refine wk_cond_t rfl ?_ | refine wk_cond_f rfl ?_ | (refine wk_exit ?_; (repeat (refine blockK_other rfl ?_)); refine blockK_same ?_; try ((repeat ((fail_if_success (refine hK _ _ ?_)); clear hK K)); refine hK _ _ ?_; clear hK K)) | (refine a_bin ?_ ?_ <;> intro _ <;> try (exfalso; omega)) | refine a_ld hl ?_ | (refine a_st hl ?_; clear hl; intro _ hl) | refine a_ix (fun _ => ?_) | refine a_row (RefB.r0 hown1) ?_ | refine a_idx (c := 1) a rfl ?_ | refine a_idx (c := 1) b rfl ?_ | refine a_row (RefB.rO hown1 ha) ?_ | refine a_row hC ?_ | fail)
      cases hc : cutA s a b
      · have hq := hok.q a b ha hb
        have hql : (R.ql a b).length = (s.q a b).length := by rw [← hq.hl, List.length_map]
        obtain ⟨qa, qc, hqv, -⟩ := hq.hv.1.shape (m := (s.q a b).length) (by rw [← hql]; exact flat_length (f := msgC) (c := 3) (fun _ => rfl) _) (by omega)
        have hI := RefB.rI hown1 ha hb
        rw [hqv] at hI
        repeat' (first | refine a_mov ?_ | refine a_asg ?_ | refine a_binN ?_ | refine a_notd ?_ | refine a_notb ?_ | refine a_nilc ?_ | refine a_fa ?_ | refine a_ext ?_ | refine a_lenv ?_ | refine a_lens ?_ | refine a_pick_t ?_ | refine a_pick_f ?_ | refine a_not ?_ | refine a_nilf ?_ | (refine o_nil (hK _ _ ?_); clear hK K) | refine wk_reg ?_ | refine wk_seq fun K hK => ?_ | (refine wk_skip (hK _ _ ?_); clear hK K) | (refine wk_label (hK _ _ ?_); clear hK K) | refine wk_scope ?_ | refine wk_block ?_ | refine wk_cond_t rfl ?_ | refine wk_cond_f rfl ?_ | (refine wk_exit ?_; (repeat (refine blockK_other rfl ?_)); refine blockK_same ?_; try ((repeat ((fail_if_success (refine hK _ _ ?_)); clear hK K)); refine hK _ _ ?_; clear hK K)) | (refine a_bin ?_ ?_ <;> intro _ <;> try (exfalso; omega)) | refine a_ld hl ?_ | (refine a_st hl ?_; clear hl; intro _ hl) | refine a_ix (fun _ => ?_) | refine a_row (RefB.r0 hown1) ?_ | refine a_idx (c := 1) a rfl ?_ | refine a_idx (c := 1) b rfl ?_ | refine a_row (RefB.rQ hown1 ha) ?_ | refine a_row hI ?_ | fail)
        · refine wk_ret (retQ_tmp1 Try.results18 (by decide) rfl (by conv => lhs; whnf) ?_)
          have hE : delivB s a b = false := by
            have hq0 : s.q a b = [] := List.length_eq_zero_iff.1 (by omega)
            unfold delivB; rw [hp, hc, hq0]; rfl
          exact ⟨by rw [hE], hsame he1 hE⟩
        · refine wk_skip ⟨(), ⟨rfl, rfl, rfl, rfl, rfl, trivial⟩, rfl, ?_, he1⟩
          have hq0 : s.q a b ≠ [] := List.length_pos_iff.1 (by omega)
          unfold delivB
          rw [hp, hc, decide_eq_true hq0]; rfl
      · repeat' (first | refine a_mov ?_ | refine a_asg ?_ | refine a_binN ?_ | refine a_notd ?_ | refine a_notb ?_ | refine a_nilc ?_ | refine a_fa ?_ | refine a_ext ?_ | refine a_lenv ?_ | refine a_lens ?_ | refine a_pick_t ?_ | refine a_pick_f ?_ | refine a_not ?_ | refine a_nilf ?_ | (refine o_nil (hK _ _ ?_); clear hK K) | refine wk_reg ?_ | refine wk_seq fun K hK => ?_ | (refine wk_skip (hK _ _ ?_); clear hK K) | (refine wk_label (hK _ _ ?_); clear hK K) | refine wk_scope ?_ | refine wk_block ?_ | refine wk_cond_t rfl ?_ | refine wk_cond_f rfl ?_ | (refine wk_exit ?_; (repeat (refine blockK_other rfl ?_)); refine blockK_same ?_; try ((repeat ((fail_if_success (refine hK _ _ ?_)); clear hK K)); refine hK _ _ ?_; clear hK K)) | (refine a_bin ?_ ?_ <;> intro _ <;> try (exfalso; omega)) | refine a_ld hl ?_ | (refine a_st hl ?_; clear hl; intro _ hl) | refine a_ix (fun _ => ?_) | fail)
        refine wk_ret (retQ_tmp1 Try.results18 (by decide) rfl (by conv => lhs; whnf) ?_)
        have hE : delivB s a b = false := by unfold delivB; rw [hc]; simp
        exact ⟨by rw [hE], hsame he1 hE⟩
  rintro _ t1 w1 ⟨hdb, he1⟩
  refine hK _ _ ?_
  clear hK K
  obtain ⟨hp, hc, hne⟩ := delivB_iff.1 hdb
  obtain ⟨ha, hb, hab⟩ := of_decide_eq_true hp
  have hq := hok.q a b ha hb
  obtain ⟨q, qs, hqq⟩ : ∃ q qs, R.ql a b = q :: qs := by
    cases h : R.ql a b with
    | nil => exact absurd (by rw [← hq.hl, h]; rfl) hne
    | cons q qs => exact ⟨q, qs, rfl⟩
  have hsq : s.q a b = q.2 :: qs.map (·.2) := by rw [← hq.hl, hqq]; rfl
  have hdl : deliver s a b lost again = if lost then after1 s a b (again && !lost) (qs.map (·.2)) else recv (after1 s a b (again && !lost) (qs.map (·.2))) a b q.2 := by
    unfold deliver after1
    rw [hdb, hsq]
    rfl
  have hown1 := hown.ext he1
  have hok1 := hok.ext he1
  have hqle : (R.ql a b).length = (s.q a b).length := by rw [← hq.hl, List.length_map]
  obtain ⟨qa, qc, hqv, hqc⟩ := hq.hv.1.shape (m := (s.q a b).length) (by rw [← hqle]; exact flat_length (f := msgC) (c := 3) (fun _ => rfl) _) (by omega)
  have hsl : Sl w1 (.slice qa (s.q a b).length qc) 3 ((R.ql a b).flatMap msgC) := by have := hq.hv.1.ext he1; rwa [hqv] at this
  have hsll : ((R.ql a b).flatMap msgC).length = (s.q a b).length * 3 := by rw [← hqle]; exact flat_length (f := msgC) (c := 3) (fun _ => rfl) _
  have hI := RefB.rI hown1 ha hb
  rw [hqv] at hI
  obtain ⟨qb, qo, hqp, hqr⟩ := hsl.at hsll (by omega) (by rw [hsq]; simp)
  have hqr0 : Row w1 qb (qo + 0 * 3) (msgC q) := hqr.elem (f := msgC) (c := 3) (fun _ => rfl) (k := 0) (t := q) (by rw [hqq]; rfl)
  obtain ⟨x3, c3, hq1⟩ : ∃ x c, q.1 = .slice x q.2.texts.length c := by
    obtain ⟨x, c, h', -⟩ := ((hq.hs q (by rw [hqq]; simp)).1).shape (strL_len _) (by omega)
    exact ⟨x, c, h'⟩
  have hmone : (msgC q).all Value.oneCell' = true := by
    show (q.1.oneCell' && _) = true
    rw [hq1]; rfl
  have hs1 : SlO (R.D s.n) w1 q.1 1 (sLs q.2.texts) := (hq.hs q (by rw [hqq]; simp)).ext he1
  refine wk_seq fun K hK => ?_
  refine wk_reg ?_
  repeat' (first | refine a_mov ?_ | refine a_asg ?_ | refine a_binN ?_ | refine a_notd ?_ | refine a_notb ?_ | refine a_nilc ?_ | refine a_fa ?_ | refine a_ext ?_ | refine a_lenv ?_ | refine a_lens ?_ | refine a_pick_t ?_ | refine a_pick_f ?_ | refine a_not ?_ | refine a_nilf ?_ | (refine a_bin ?_ ?_ <;> intro _ <;> try (exfalso; omega)) | refine a_ld hl ?_ | (refine a_st hl ?_; clear hl; intro _ hl) | refine a_ix (fun _ => ?_) | refine a_row (RefB.r0 hown1) ?_ | refine a_idx (c := 1) a rfl ?_ | refine a_idx (c := 1) b rfl ?_ | refine a_row (RefB.rQ hown1 ha) ?_ | refine a_row hI ?_ | fail)
  refine a_idx (c := 3) 0 hqp ?_ (hj := by rw [hsq]; simp)
  refine a_all hqr0 ?_
  refine o_alloc (LH.start w1 (fun _ => False)) zeroM rfl rfl ?_
  intro b11 w2 hb11 hl2
  refine o_putN (us := msgC q) hl2 rfl rfl rfl hmone rfl (.all (vs := zeroM) rfl rfl) ?_
  clear hl2
  intro w2 hl2
  refine o_nil (hK _ _ ?_)
  clear hK K
  have hx2 : Ext w1 w2 := hl2.done
  have hok2 := hok1.own hl2
  have hs2 := SlO.own (R := R) hl2 hs1
  have hown2 : LH w (Go.Pd.In (R.bl s.n)) w2 (R.bl s.n ++ [msgB b11 q]) := ((hown1.join hl2).perm List.perm_append_comm)
  generalize hR1 : ({ R with Y := fun x => R.Y x ∨ x = b11 } : RefB) = R1 at hok2 hs2
  have hp1 : R1.p = R.p := by rw [← hR1]
  have hY1 : R1.Y = fun x => R.Y x ∨ x = b11 := by rw [← hR1]
  have hqv1 : R1.qv a b = .slice qa (s.q a b).length qc := by rw [← hR1]; exact hqv
  have hql1 : R1.ql a b = q :: qs := by rw [← hR1]; exact hqq
  have hb1 : R1.bl s.n = R.bl s.n := by rw [← hR1]; rfl
  replace hown2 : LH w (Go.Pd.In (R.bl s.n)) w2 (R1.bl s.n ++ [msgB b11 q]) := by rw [hb1]; exact hown2
  clear hI hsl hqr hqr0 hs1 hown1 hok1 hl2
  -- out of the queue
  refine wk_seq fun K hK => ?_
  obtain ⟨s1, hs1⟩ : ∃ s1, s1 = after1 s a b (again && !lost) (qs.map (·.2)) := ⟨_, rfl⟩
  have hn1 : s1.n = s.n := by rw [hs1]; unfold after1; split <;> rfl
  have hnd1 : s1.node = s.node := by rw [hs1]; unfold after1; split <;> rfl
  rw [← hs1] at hdl
  refine wk_cut [] (fun _ : Unit => [(0, .pointer (some ⟨R.p, 0, none⟩)), (1, .int .i64 (a : Int)), (2, .int .i64 (b : Int)), (3, .bool lost), (11, .pointer (some ⟨b11, 0, none⟩))]) (fun _ w' => ∃ R2 : RefB, R2.p = R.p ∧ R2.Y = (fun x => R.Y x ∨ x = b11) ∧ LH w (Go.Pd.In (R.bl s.n)) w' (R2.bl s.n ++ [msgB b11 q]) ∧ RefOK R2 s1 w' ∧ SlO (R2.D s.n) w' q.1 1 (sLs q.2.texts)) ?_ ?_
  · clear hK K
    have hstay : (again && !lost) = true → ∃ R2 : RefB, R2.p = R.p ∧ R2.Y = (fun x => R.Y x ∨ x = b11) ∧ LH w (Go.Pd.In (R.bl s.n)) w2 (R2.bl s.n ++ [msgB b11 q]) ∧ RefOK R2 s1 w2 ∧ SlO (R2.D s.n) w2 q.1 1 (sLs q.2.texts) := fun hst => by
      refine ⟨R1, hp1, hY1, hown2, ?_, hs2⟩
      rw [hs1, hst]
      exact hok2
    have hownR : LH w (Go.Pd.In (R.bl s.n)) w2 (R1.bl s.n) := hown2.sub (List.sublist_append_left _ _)
    have hr0 := RefB.r0 hownR
    rw [hp1] at hr0
    have hrQ := RefB.rQ hownR ha
    have hI := RefB.rI hownR ha hb
    rw [hqv1] at hI
    have hq2 := hok2.q a b ha hb
    rw [hqv1, hql1] at hq2
    have hcut := cutL_sl (P := Try.prog) (t := 85) (k := 3) (lo := 1) rfl rfl hq2.hv.1 (by rw [flat_length (f := msgC) (c := 3) (fun _ => rfl) (q :: qs), hsq]; simp) (by decide) hqc (by rw [hsq]; simp)
    have hlen1 : 1 ≤ (s.q a b).length := by rw [hsq]; simp
    have hfin : (again && !lost) = false → ∀ wd, Ext w2 wd → ∀ w3, LH wd (Go.Pd.In [R1.row s.n a 3]) w3 [(R1.qi a, .cells (putL (flt s.n (fun j => [R1.qv a j]) ++ []) (0 + b * 1) [cutLv qa (s.q a b).length qc 3 1]).toArray 85 (0, 0))] → ∃ R2 : RefB, R2.p = R.p ∧ R2.Y = (fun x => R.Y x ∨ x = b11) ∧ LH w (Go.Pd.In (R.bl s.n)) w3 (R2.bl s.n ++ [msgB b11 q]) ∧ RefOK R2 s1 w3 ∧ SlO (R2.D s.n) w3 q.1 1 (sLs q.2.texts) := fun hst wd hxd w3 h6 => by
      replace hownR := hownR.ext hxd
      replace hown2 := hown2.ext hxd
      replace hok2 := hok2.ext hxd
      replace hq2 := hq2.ext hxd
      replace hs2 := hs2.ext hxd
      have hself := RefB.setQv (cutLv qa (s.q a b).length qc 3 1) ha hb h6 hownR.owned
      have hs1' : s1 = { s with q := upd2 s.q a b (qs.map (·.2)) } := by rw [hs1, hst]; rfl
      refine ⟨{ R1 with qv := upd2 R1.qv a b (cutLv qa (s.q a b).length qc 3 1), ql := upd2 R1.ql a b qs }, hp1, hY1, hown2.focus hself, ?_, ?_⟩
      · rw [hs1']
        refine hok2.moved (s' := { s with q := upd2 s.q a b (qs.map (·.2)) }) hself rfl rfl (fun _ _ => .inl ⟨rfl, rfl⟩) (fun _ _ _ _ => .inl ⟨rfl, rfl⟩) (fun i j hi hj => ?_) hok2.a hok2.h hok2.k hok2.c
        by_cases e : i = a ∧ j = b
        · obtain ⟨rfl, rfl⟩ := e
          right
          show QLeaf _ w3 (upd2 R1.qv i j _ i j) (upd2 R1.ql i j _ i j) (upd2 s.q i j _ i j)
          rw [upd2_same, upd2_same, upd2_same]
          refine ⟨?_, rfl, fun z hz => (hq2.hs z (List.mem_cons_of_mem _ hz)).stepX hself⟩
          have h1 : SlO (R1.D s.n) wd (cutLv qa (s.q i j).length qc 3 1) 3 (qs.flatMap msgC) := by
            refine ⟨?_, .inr (hcut.2 _ (hq2.hv.2.resolve_left fun h => by rw [List.flatMap_cons] at h; cases h))⟩
            have := hcut.1.ext hxd
            rw [List.flatMap_cons] at this
            exact this
          exact h1.stepX hself
        · left
          exact ⟨upd2_ne _ _ e, upd2_ne _ _ e, upd2_ne _ _ e⟩
      · exact hs2.stepX hself
    cases lost
    · cases again
      · repeat' (first | refine a_mov ?_ | refine a_asg ?_ | refine a_binN ?_ | refine a_notd ?_ | refine a_notb ?_ | refine a_nilc ?_ | refine a_fa ?_ | refine a_ext ?_ | refine a_lenv ?_ | refine a_lens ?_ | refine a_pick_t ?_ | refine a_pick_f ?_ | refine a_not ?_ | refine a_nilf ?_ | (refine o_nil (hK _ _ ?_); clear hK K) | refine wk_reg ?_ | refine wk_seq fun K hK => ?_ | (refine wk_skip (hK _ _ ?_); clear hK K) | (refine wk_label (hK _ _ ?_); clear hK K) | refine wk_scope ?_ | refine wk_block ?_ | refine wk_cond_t rfl ?_ | refine wk_cond_f rfl ?_ | (refine wk_exit ?_; (repeat (refine blockK_other rfl ?_)); refine blockK_same ?_; try ((repeat ((fail_if_success (refine hK _ _ ?_)); clear hK K)); refine hK _ _ ?_; clear hK K)) | (refine a_bin ?_ ?_ <;> intro _ <;> try (exfalso; omega)) | refine a_ld hl ?_ | (refine a_st hl ?_; clear hl; intro _ hl) | refine a_ix (fun _ => ?_) | fail)
        refine wk_draw [0, 1, 2, 3, 4, 5, 6, 7, 8, 9, 10, 11, 12, 13, 14, 15, 16, 17, 18, 19] [] [20] (fun w' => To w2 w' w2.heap) (fun _ => True) rfl (by kernel_rfl) (fun _ _ _ _ h => by first | exact h | (simp only [BlockK, NoGoto, RetQ] at h)) (fun _ h => h) (fun _ _ => trivial) ?_
        repeat' (first | refine q_mov ?_ | refine q_asg ?_ | refine q_fa ?_ | refine q_ext ?_ | refine q_binN ?_ | refine q_notd ?_ | refine q_notb ?_ | refine q_pick_t ?_ | refine q_pick_f ?_ | refine q_nilc ?_ | refine q_skip ?_ | refine q_lens ?_ | refine q_lenv ?_ | refine q_nil ?_ | refine q_ix (fun _ => ?_) | (refine q_bin ?_ ?_ <;> intro _ <;> try (exfalso; omega)) | refine q_idx (c := 1) a rfl ?_ | refine q_idx (c := 1) b rfl ?_ | refine q_row (fun w_ hw_ => hr0.heap hw_) ?_ | refine q_row (fun w_ hw_ => hrQ.heap hw_) ?_ | refine q_row (fun w_ hw_ => hI.heap hw_) ?_ | refine q_pur rfl rfl rfl (fun w => r_slcL (lo := 1) rfl rfl hqc hlen1 rfl rfl rfl w) ?_ | fail)
        intro w3 hw3
        have hx3 : Ext w2 w3 := Upd.of_heap hw3
        refine ops_tail rfl rfl ?_
        refine o_store (RefB.atRow (hownR.ext hx3) (kd := 3) ha (by omega)) 0 [cutLv qa (s.q a b).length qc 3 1] rfl rfl rfl rfl rfl (flt_len (c := 1) (fun _ => rfl) [] hb) rfl ?_
        intro w4 h6
        refine o_nil ⟨trivial, ?_⟩
        refine ops_nil ?_
        exact ⟨(), ⟨rfl, rfl, rfl, rfl, rfl, trivial⟩, rfl, hfin (by simp) w3 hx3 w4 h6⟩
      · repeat' (first | refine a_mov ?_ | refine a_asg ?_ | refine a_binN ?_ | refine a_notd ?_ | refine a_notb ?_ | refine a_nilc ?_ | refine a_fa ?_ | refine a_ext ?_ | refine a_lenv ?_ | refine a_lens ?_ | refine a_pick_t ?_ | refine a_pick_f ?_ | refine a_not ?_ | refine a_nilf ?_ | (refine o_nil (hK _ _ ?_); clear hK K) | refine wk_reg ?_ | refine wk_seq fun K hK => ?_ | (refine wk_skip (hK _ _ ?_); clear hK K) | (refine wk_label (hK _ _ ?_); clear hK K) | refine wk_scope ?_ | refine wk_block ?_ | refine wk_cond_t rfl ?_ | refine wk_cond_f rfl ?_ | (refine wk_exit ?_; (repeat (refine blockK_other rfl ?_)); refine blockK_same ?_; try ((repeat ((fail_if_success (refine hK _ _ ?_)); clear hK K)); refine hK _ _ ?_; clear hK K)) | (refine a_bin ?_ ?_ <;> intro _ <;> try (exfalso; omega)) | refine a_ld hl ?_ | (refine a_st hl ?_; clear hl; intro _ hl) | refine a_ix (fun _ => ?_) | fail)
        exact wk_skip ⟨(), ⟨rfl, rfl, rfl, rfl, rfl, trivial⟩, rfl, hstay rfl⟩
    · repeat' (first | refine a_mov ?_ | refine a_asg ?_ | refine a_binN ?_ | refine a_notd ?_ | refine a_notb ?_ | refine a_nilc ?_ | refine a_fa ?_ | refine a_ext ?_ | refine a_lenv ?_ | refine a_lens ?_ | refine a_pick_t ?_ | refine a_pick_f ?_ | refine a_not ?_ | refine a_nilf ?_ | (refine o_nil (hK _ _ ?_); clear hK K) | refine wk_reg ?_ | refine wk_seq fun K hK => ?_ | (refine wk_skip (hK _ _ ?_); clear hK K) | (refine wk_label (hK _ _ ?_); clear hK K) | refine wk_scope ?_ | refine wk_block ?_ | refine wk_cond_t rfl ?_ | refine wk_cond_f rfl ?_ | (refine wk_exit ?_; (repeat (refine blockK_other rfl ?_)); refine blockK_same ?_; try ((repeat ((fail_if_success (refine hK _ _ ?_)); clear hK K)); refine hK _ _ ?_; clear hK K)) | (refine a_bin ?_ ?_ <;> intro _ <;> try (exfalso; omega)) | refine a_ld hl ?_ | (refine a_st hl ?_; clear hl; intro _ hl) | refine a_ix (fun _ => ?_) | fail)
      refine wk_draw [0, 1, 2, 3, 4, 5, 6, 7, 8, 9, 10, 11, 12, 13, 14, 15, 16, 17, 18, 19] [] [20] (fun w' => To w2 w' w2.heap) (fun _ => True) rfl (by kernel_rfl) (fun _ _ _ _ h => by first | exact h | (simp only [BlockK, NoGoto, RetQ] at h)) (fun _ h => h) (fun _ _ => trivial) ?_
      repeat' (first | refine q_mov ?_ | refine q_asg ?_ | refine q_fa ?_ | refine q_ext ?_ | refine q_binN ?_ | refine q_notd ?_ | refine q_notb ?_ | refine q_pick_t ?_ | refine q_pick_f ?_ | refine q_nilc ?_ | refine q_skip ?_ | refine q_lens ?_ | refine q_lenv ?_ | refine q_nil ?_ | refine q_ix (fun _ => ?_) | (refine q_bin ?_ ?_ <;> intro _ <;> try (exfalso; omega)) | refine q_idx (c := 1) a rfl ?_ | refine q_idx (c := 1) b rfl ?_ | refine q_row (fun w_ hw_ => hr0.heap hw_) ?_ | refine q_row (fun w_ hw_ => hrQ.heap hw_) ?_ | refine q_row (fun w_ hw_ => hI.heap hw_) ?_ | refine q_pur rfl rfl rfl (fun w => r_slcL (lo := 1) rfl rfl hqc hlen1 rfl rfl rfl w) ?_ | fail)
      intro w3 hw3
      have hx3 : Ext w2 w3 := Upd.of_heap hw3
      refine ops_tail rfl rfl ?_
      refine o_store (RefB.atRow (hownR.ext hx3) (kd := 3) ha (by omega)) 0 [cutLv qa (s.q a b).length qc 3 1] rfl rfl rfl rfl rfl (flt_len (c := 1) (fun _ => rfl) [] hb) rfl ?_
      intro w4 h6
      refine o_nil ⟨trivial, ?_⟩
      refine ops_nil ?_
      exact ⟨(), ⟨rfl, rfl, rfl, rfl, rfl, trivial⟩, rfl, hfin (by simp) w3 hx3 w4 h6⟩
  clear hok2 hs2 hown2 hb1 hqv1 hql1 hp1 hY1 hR1 hqp hsll hqle hqv
  clear R1
  rintro _ t3 w3 ⟨R2, hp2, hY2, hown3, hok3, hs3⟩
  refine hK _ _ ?_
  clear hK K
  have hownR3 : LH w (Go.Pd.In (R.bl s.n)) w3 (R2.bl s.n) := hown3.sub (List.sublist_append_left _ _)
  cases lost
  case true =>
    repeat' (first | refine a_mov ?_ | refine a_asg ?_ | refine a_binN ?_ | refine a_notd ?_ | refine a_notb ?_ | refine a_nilc ?_ | refine a_fa ?_ | refine a_ext ?_ | refine a_lenv ?_ | refine a_lens ?_ | refine a_pick_t ?_ | refine a_pick_f ?_ | refine a_not ?_ | refine a_nilf ?_ | (refine o_nil (hK _ _ ?_); clear hK K) | refine wk_reg ?_ | refine wk_seq fun K hK => ?_ | (refine wk_skip (hK _ _ ?_); clear hK K) | (refine wk_label (hK _ _ ?_); clear hK K) | refine wk_scope ?_ | refine wk_block ?_ | refine wk_cond_t rfl ?_ | refine wk_cond_f rfl ?_ | (refine wk_exit ?_; (repeat (refine blockK_other rfl ?_)); refine blockK_same ?_; try ((repeat ((fail_if_success (refine hK _ _ ?_)); clear hK K)); refine hK _ _ ?_; clear hK K)) | (refine a_bin ?_ ?_ <;> intro _ <;> try (exfalso; omega)) | refine a_ld hl ?_ | (refine a_st hl ?_; clear hl; intro _ hl) | refine a_ix (fun _ => ?_) | fail)
    refine wk_ret (retQ_tmp1 Try.results18 (by decide) rfl (by conv => lhs; whnf) ?_)
    refine ⟨by rw [hdb], ?_⟩
    rw [hdl]
    show AftR R.Y s1 R.p (R.bl s.n) w w3
    exact AftR.mk (R' := { R2 with Y := R.Y }) hp2 (by rw [hn1]; exact hownR3) (hok3.less fun b hb => by rw [hY2]; exact .inl hb) rfl
  have hmle : q.2.texts.length ≤ 1000 := hbd.m a b q.2 (by rw [hsq]; simp)
  obtain ⟨q1, m⟩ := q
  dsimp only at hq1 hmle hs3 hdl hsq
  subst hq1
  have htb := hok3.t b (by rw [hn1]; exact hb)
  rw [hn1] at htb
  obtain ⟨xt, xc, hxt, -⟩ := htb.1.shape (strL_len _) (by omega)
  have hrN := RefB.rN hownR3 hb
  rw [show R2.nodeC s.n b = [.slice xt (texts s1 b).length xc, arrV (R2.hb b) s.n s.n, arrV (R2.kb b) s.n s.n, arrV (R2.gb b) s.n s.n] by unfold RefB.nodeC; rw [hxt]] at hrN
  have hr3 := RefB.r0 hownR3
  rw [hp2] at hr3
  repeat' (first | refine a_mov ?_ | refine a_asg ?_ | refine a_binN ?_ | refine a_notd ?_ | refine a_notb ?_ | refine a_nilc ?_ | refine a_fa ?_ | refine a_ext ?_ | refine a_lenv ?_ | refine a_lens ?_ | refine a_pick_t ?_ | refine a_pick_f ?_ | refine a_not ?_ | refine a_nilf ?_ | (refine o_nil (hK _ _ ?_); clear hK K) | refine wk_reg ?_ | refine wk_seq fun K hK => ?_ | (refine wk_skip (hK _ _ ?_); clear hK K) | (refine wk_label (hK _ _ ?_); clear hK K) | refine wk_scope ?_ | refine wk_block ?_ | refine wk_cond_t rfl ?_ | refine wk_cond_f rfl ?_ | (refine wk_exit ?_; (repeat (refine blockK_other rfl ?_)); refine blockK_same ?_; try ((repeat ((fail_if_success (refine hK _ _ ?_)); clear hK K)); refine hK _ _ ?_; clear hK K)) | (refine a_bin ?_ ?_ <;> intro _ <;> try (exfalso; omega)) | refine a_ld hl ?_ | (refine a_st hl ?_; clear hl; intro _ hl) | refine a_ix (fun _ => ?_) | refine a_row hr3 ?_ | refine a_idx (c := 4) b rfl ?_ | refine a_all hrN ?_ | fail)
  refine o_alloc (LH.start w3 (fun _ => False)) zeroN rfl rfl ?_
  intro b12 w4 hb12 hl4
  refine o_putN (us := [.slice xt (texts s1 b).length xc, arrV (R2.hb b) s.n s.n, arrV (R2.kb b) s.n s.n, arrV (R2.gb b) s.n s.n]) hl4 rfl rfl rfl rfl rfl (.all (vs := zeroN) rfl rfl) ?_
  clear hl4
  intro w4 hl4
  have hok4 := hok3.own hl4
  have hs4 := SlO.own (R := R2) hl4 hs3
  have hx4 := SlO.own (R := R2) hl4 htb
  rw [hxt] at hx4
  have hown4 := (hown3.join hl4).perm List.perm_append_comm
  rw [List.append_assoc] at hown4
  clear hr3 hrN hok3 hs3 hown3 hownR3 htb hxt
  have hh0 : ∃ h0 k0 g0, (s1.node b).peer a = ⟨h0, k0, g0⟩ := ⟨_, _, _, rfl⟩
  obtain ⟨h0, k0, g0, hpe⟩ := hh0
  have hg0 : g0.length ≤ 100000 := by have := hgl b a; rw [← hnd1, hpe] at this; exact this
  have htl0 : (texts s1 b).length ≤ 1000 := by have := hbd.len b; rw [← texts_of hnd1] at this; exact this
  have hrv : recv s1 a b m = setT (setPr s1 b a ⟨max h0 m.len, max k0 m.heard, m.texts.foldl addT g0⟩) b (m.texts.foldl addT (texts s1 b)) := by rw [recv_set, hpe]; rfl
  repeat' (first | refine a_mov ?_ | refine a_asg ?_ | refine a_binN ?_ | refine a_notd ?_ | refine a_notb ?_ | refine a_nilc ?_ | refine a_fa ?_ | refine a_ext ?_ | refine a_lenv ?_ | refine a_lens ?_ | refine a_pick_t ?_ | refine a_pick_f ?_ | refine a_not ?_ | refine a_nilf ?_ | (refine o_nil (hK _ _ ?_); clear hK K) | refine wk_reg ?_ | refine wk_seq fun K hK => ?_ | (refine wk_skip (hK _ _ ?_); clear hK K) | (refine wk_label (hK _ _ ?_); clear hK K) | refine wk_scope ?_ | refine wk_block ?_ | refine wk_cond_t rfl ?_ | refine wk_cond_f rfl ?_ | (refine wk_exit ?_; (repeat (refine blockK_other rfl ?_)); refine blockK_same ?_; try ((repeat ((fail_if_success (refine hK _ _ ?_)); clear hK K)); refine hK _ _ ?_; clear hK K)) | (refine a_bin ?_ ?_ <;> intro _ <;> try (exfalso; omega)) | refine a_ld hl ?_ | (refine a_st hl ?_; clear hl; intro _ hl) | refine a_ix (fun _ => ?_) | fail)
  refine wk_loopH [] rfl (fun k : Nat => [(0, .pointer (some ⟨R.p, 0, none⟩)), (1, .int .i64 (a : Int)), (2, .int .i64 (b : Int)), (11, .pointer (some ⟨b11, 0, none⟩)), (12, .pointer (some ⟨b12, 0, none⟩)), (13, .int .i64 (k : Int))])
    (fun k w' => k ≤ m.texts.length ∧ ∃ (R5 : RefB) (xv : Value), (R5.p = R.p ∧ R5.Y = (fun x => R2.Y x ∨ x = b12) ∧ R5.hb = R2.hb ∧ R5.kb = R2.kb ∧ R5.gb = R2.gb) ∧ LH w (Go.Pd.In (R.bl s.n)) w' (R5.bl s.n ++ ([msgB b11 (.slice x3 m.texts.length c3, m)] ++ [(b12, .cells [xv, arrV (R2.hb b) s.n s.n, arrV (R2.kb b) s.n s.n, arrV (R2.gb b) s.n s.n].toArray 74 (0, 0))])) ∧ RefOK R5 (setPr s1 b a ⟨h0, k0, (m.texts.take k).foldl addT g0⟩) w' ∧ SlO (R5.D s.n) w' xv 1 (sLs ((m.texts.take k).foldl addT (texts s1 b))) ∧ SlO (R5.D s.n) w' (.slice x3 m.texts.length c3) 1 (sLs m.texts))
    (fun k => m.texts.length - k) 0 ⟨rfl, rfl, rfl, rfl, rfl, rfl, trivial⟩ ⟨Nat.zero_le _, { R2 with Y := fun x => R2.Y x ∨ x = b12 }, _, ⟨hp2, rfl, rfl, rfl, rfl⟩, hown4, ?_, hx4, hs4⟩ ?_
  · refine hok4.congr rfl (setPr_texts _ _ _ _) (fun x y => ?_) rfl rfl rfl
    rw [setPr_peer]
    split
    · rename_i e
      rw [e.1, e.2, hpe]; rfl
    · rfl
  clear hok4 hs4 hx4 hown4 hl4
  rintro k t5 w5 ⟨hk, R5, xv, ⟨hp5, hY5, hhb5, hkb5, hgb5⟩, hown5, hok5, hx5, hs5⟩
  have hn5 : (setPr s1 b a ⟨h0, k0, (m.texts.take k).foldl addT g0⟩).n = s.n := hn1
  by_cases hk1 : k < m.texts.length
  · have htk := foldT_snoc (l := m.texts) (texts s1 b) hk1
    have hgk := foldT_snoc (l := m.texts) g0 hk1
    have htkl := foldT_lenR (m.texts.take k) (texts s1 b)
    have hgkl := foldT_lenR (m.texts.take k) g0
    rw [List.length_take] at htkl hgkl
    generalize (m.texts.take k).foldl addT (texts s1 b) = tk at *
    generalize (m.texts.take k).foldl addT g0 = gk at *
    obtain ⟨ta, tc, hxv, -⟩ := hx5.1.shape (strL_len _) (by omega)
    subst hxv
    obtain ⟨mb, mo, hmp, hmr⟩ := Sl.tx hs5.1 rfl hk1
    have hownR : LH w (Go.Pd.In (R.bl s.n)) w5 (R5.bl s.n) := hown5.sub (List.sublist_append_left _ _)
    have hownX : LH w (Go.Pd.In (R.bl s.n)) w5 ([msgB b11 (.slice x3 m.texts.length c3, m)] ++ [(b12, .cells [.slice ta tk.length tc, arrV (R2.hb b) s.n s.n, arrV (R2.kb b) s.n s.n, arrV (R2.gb b) s.n s.n].toArray 74 (0, 0))]) := hown5.sub (List.sublist_append_right _ _)
    have hrM : Row w5 b11 0 (msgC (.slice x3 m.texts.length c3, m)) := hownX.rowL (vs := msgC (.slice x3 m.texts.length c3, m)) 0 0 3 rfl
    have hrX : Row w5 b12 0 [.slice ta tk.length tc, arrV (R2.hb b) s.n s.n, arrV (R2.kb b) s.n s.n, arrV (R2.gb b) s.n s.n] := hownX.rowL (vs := [.slice ta tk.length tc, arrV (R2.hb b) s.n s.n, arrV (R2.kb b) s.n s.n, arrV (R2.gb b) s.n s.n]) 1 0 4 rfl
    refine wk_seq fun K hK => ?_
    refine wk_seq fun K' hK' => ?_
    refine wk_reg ?_
    repeat' (first | refine a_mov ?_ | refine a_asg ?_ | refine a_binN ?_ | refine a_notd ?_ | refine a_notb ?_ | refine a_nilc ?_ | refine a_fa ?_ | refine a_ext ?_ | refine a_lenv ?_ | refine a_lens ?_ | refine a_pick_t ?_ | refine a_pick_f ?_ | refine a_not ?_ | refine a_nilf ?_ | (refine a_bin ?_ ?_ <;> intro _ <;> try (exfalso; omega)) | refine a_ld hl ?_ | (refine a_st hl ?_; clear hl; intro _ hl) | refine a_ix (fun _ => ?_) | refine a_row hrM ?_ | fail)
    refine o_nil (hK' _ _ ?_)
    clear hK' K'
    refine wk_cond_t rfl ?_
    refine wk_skip (hK _ _ ?_)
    clear hK K
    refine wk_seq fun Kb hKb => ?_
    refine wk_block ?_
    refine wk_seq fun Ks hKs => ?_
    refine wk_cut [] (fun _ : Unit => [(0, .pointer (some ⟨R.p, 0, none⟩)), (1, .int .i64 (a : Int)), (2, .int .i64 (b : Int)), (11, .pointer (some ⟨b11, 0, none⟩)), (12, .pointer (some ⟨b12, 0, none⟩)), (13, .int .i64 (k : Int))])
      (fun _ w' => ∃ xv, LH w (Go.Pd.In (R.bl s.n)) w' (R5.bl s.n ++ ([msgB b11 (.slice x3 m.texts.length c3, m)] ++ [(b12, .cells [xv, arrV (R2.hb b) s.n s.n, arrV (R2.kb b) s.n s.n, arrV (R2.gb b) s.n s.n].toArray 74 (0, 0))])) ∧ RefOK R5 (setPr s1 b a ⟨h0, k0, gk⟩) w' ∧ SlO (R5.D s.n) w' xv 1 (sLs (addT tk m.texts[k])) ∧ SlO (R5.D s.n) w' (.slice x3 m.texts.length c3) 1 (sLs m.texts)) ?_ ?_
    · clear hKs Ks
      have hmr' : ∀ w', Ext w5 w' → Row w' mb (mo + k * 1) [str m.texts[k]] := fun w' e => hmr.ext e
      obtain ⟨bb, hbb⟩ : ∃ bb, bb = decide (m.texts[k] ∈ tk) := ⟨_, rfl⟩
      have hcall : ∀ w', Ext w5 w' → Calls Try.prog 29 #[.slice ta tk.length tc, str m.texts[k]] w' (fun e w'' => ∃ x, e = .returned x ∧ x = .bool bb ∧ Ext w' w'') := fun w' hw' => by
        rw [hbb]
        exact in_calls (l := tk) m.texts[k] (hx5.1.ext hw') (by omega)
      repeat' (first | refine a_mov ?_ | refine a_asg ?_ | refine a_binN ?_ | refine a_notd ?_ | refine a_notb ?_ | refine a_nilc ?_ | refine a_fa ?_ | refine a_ext ?_ | refine a_lenv ?_ | refine a_lens ?_ | refine a_pick_t ?_ | refine a_pick_f ?_ | refine a_not ?_ | refine a_nilf ?_ | (refine o_nil (hK _ _ ?_); clear hK K) | refine wk_reg ?_ | refine wk_seq fun K hK => ?_ | (refine wk_skip (hK _ _ ?_); clear hK K) | (refine wk_label (hK _ _ ?_); clear hK K) | refine wk_scope ?_ | refine wk_block ?_ | refine wk_cond_t rfl ?_ | refine wk_cond_f rfl ?_ | (refine wk_exit ?_; (repeat (refine blockK_other rfl ?_)); refine blockK_same ?_; try ((repeat ((fail_if_success (refine hK _ _ ?_)); clear hK K)); refine hK _ _ ?_; clear hK K)) | (refine a_bin ?_ ?_ <;> intro _ <;> try (exfalso; omega)) | refine a_ld hl ?_ | (refine a_st hl ?_; clear hl; intro _ hl) | refine a_ix (fun _ => ?_) | fail)
      refine wk_quiet [0, 1, 2, 3, 4, 5, 6, 7, 8] ?_
      repeat' (first | refine q_mov ?_ | refine q_asg ?_ | refine q_fa ?_ | refine q_ext ?_ | refine q_binN ?_ | refine q_notd ?_ | refine q_notb ?_ | refine q_pick_t ?_ | refine q_pick_f ?_ | refine q_nilc ?_ | refine q_skip ?_ | refine q_lens ?_ | refine q_lenv ?_ | refine q_nil ?_ | refine q_ix (fun _ => ?_) | (refine q_bin ?_ ?_ <;> intro _ <;> try (exfalso; omega)) | refine q_row (fun w_ hw_ => hrX.ext hw_) ?_ | refine q_row (fun w_ hw_ => hrM.ext hw_) ?_ | refine q_idx (c := 1) k hmp ?_ | refine q_row (fun w_ hw_ => hmr' w_ hw_) ?_ | refine q_fn hcall ?_ | fail)
      intro w6 hw6
      refine hK _ _ ?_
      clear hK K hcall
      replace hown5 := hown5.ext hw6
      replace hok5 := hok5.ext hw6
      replace hx5 := hx5.ext hw6
      replace hs5 := hs5.ext hw6
      replace hownX := hownX.ext hw6
      replace hrM := hrM.ext hw6
      replace hrX := hrX.ext hw6
      replace hmr := hmr.ext hw6
      clear hmr' hw6
      by_cases hin : m.texts[k] ∈ tk
      · rw [hbb, decide_eq_true hin]
        repeat' (first | refine a_mov ?_ | refine a_asg ?_ | refine a_binN ?_ | refine a_notd ?_ | refine a_notb ?_ | refine a_nilc ?_ | refine a_fa ?_ | refine a_ext ?_ | refine a_lenv ?_ | refine a_lens ?_ | refine a_pick_t ?_ | refine a_pick_f ?_ | refine a_not ?_ | refine a_nilf ?_ | (refine o_nil (hK _ _ ?_); clear hK K) | refine wk_reg ?_ | refine wk_seq fun K hK => ?_ | (refine wk_skip (hK _ _ ?_); clear hK K) | (refine wk_label (hK _ _ ?_); clear hK K) | refine wk_scope ?_ | refine wk_block ?_ | refine wk_cond_t rfl ?_ | refine wk_cond_f rfl ?_ | (refine wk_exit ?_; (repeat (refine blockK_other rfl ?_)); refine blockK_same ?_; try ((repeat ((fail_if_success (refine hK _ _ ?_)); clear hK K)); refine hK _ _ ?_; clear hK K)) | (refine a_bin ?_ ?_ <;> intro _ <;> try (exfalso; omega)) | refine a_ld hl ?_ | (refine a_st hl ?_; clear hl; intro _ hl) | refine a_ix (fun _ => ?_) | fail)
        exact wk_skip ⟨(), ⟨rfl, rfl, rfl, rfl, rfl, rfl, trivial⟩, rfl, _, hown5, hok5, by rw [show addT tk m.texts[k] = tk from if_pos hin]; exact hx5, hs5⟩
      · rw [hbb, decide_eq_false hin]
        have hadd : addT tk m.texts[k] = tk ++ [m.texts[k]] := if_neg hin
        have hsl := hx5.1
        have hsll := strL_len tk
        have hsone := strL_one tk
        have hxone : [str m.texts[k]].all Value.oneCell' = true := by simp [oneCell_str]
        have hownA : LH w (Go.Pd.In (R.bl s.n)) w6 [(b12, .cells [.slice ta tk.length tc, arrV (R2.hb b) s.n s.n, arrV (R2.kb b) s.n s.n, arrV (R2.gb b) s.n s.n].toArray 74 (0, 0))] := hownX.sub (List.sublist_append_right _ _)
        have hY12 : R5.Y b12 := by rw [hY5]; exact .inr rfl
        have hD6 : ∀ x, R5.D s.n x → x < w6.heap.size := fun x hx => hx.elim (fun h => (hown5.sub (List.sublist_append_left _ _)).idlt h) (hok5.ys x)
        have hfinX : ∀ (v : Value) (wd w8 : World), Ext w6 wd → LH wd (Go.Pd.In [(b12, Obj.cells [.slice ta tk.length tc, arrV (R2.hb b) s.n s.n, arrV (R2.kb b) s.n s.n, arrV (R2.gb b) s.n s.n].toArray 74 (0, 0))]) w8 [(b12, .cells [v, arrV (R2.hb b) s.n s.n, arrV (R2.kb b) s.n s.n, arrV (R2.gb b) s.n s.n].toArray 74 (0, 0))] → SlO (R5.D s.n) wd v 1 (strL tk ++ [str m.texts[k]]) → ∃ xv, LH w (Go.Pd.In (R.bl s.n)) w8 (R5.bl s.n ++ ([msgB b11 (.slice x3 m.texts.length c3, m)] ++ [(b12, .cells [xv, arrV (R2.hb b) s.n s.n, arrV (R2.kb b) s.n s.n, arrV (R2.gb b) s.n s.n].toArray 74 (0, 0))])) ∧ RefOK R5 (setPr s1 b a ⟨h0, k0, gk⟩) w8 ∧ SlO (R5.D s.n) w8 xv 1 (sLs (addT tk m.texts[k])) ∧ SlO (R5.D s.n) w8 (.slice x3 m.texts.length c3) 1 (sLs m.texts) := fun v wd w8 he h6 hv => by
          have hu : ∀ x, Go.Pd.In [(b12, Obj.cells [.slice ta tk.length tc, arrV (R2.hb b) s.n s.n, arrV (R2.kb b) s.n s.n, arrV (R2.gb b) s.n s.n].toArray 74 (0, 0))] x → R5.Y x := fun x hx => by
            obtain rfl : x = b12 := by simpa [Go.Pd.In] using hx
            exact hY12
          have h7 := (hown5.ext he).perm (perm3 _ _ _)
          have h8 := (h7.focus h6).perm (perm3 _ _ _).symm
          refine ⟨v, h8, (hok5.ext he).updY (h6.upd.mono fun x _ hx => hu x hx), ?_, SlO.keepD (hs5.ext he) (h6.upd.mono fun x _ hx => .inr (hu x hx))⟩
          rw [hadd, sLs, List.map_append]
          exact SlO.keepD hv (h6.upd.mono fun x _ hx => .inr (hu x hx))
        repeat' (first | refine a_mov ?_ | refine a_asg ?_ | refine a_binN ?_ | refine a_notd ?_ | refine a_notb ?_ | refine a_nilc ?_ | refine a_fa ?_ | refine a_ext ?_ | refine a_lenv ?_ | refine a_lens ?_ | refine a_pick_t ?_ | refine a_pick_f ?_ | refine a_not ?_ | refine a_nilf ?_ | (refine o_nil (hK _ _ ?_); clear hK K) | refine wk_reg ?_ | refine wk_seq fun K hK => ?_ | (refine wk_skip (hK _ _ ?_); clear hK K) | (refine wk_label (hK _ _ ?_); clear hK K) | refine wk_scope ?_ | refine wk_block ?_ | refine wk_cond_t rfl ?_ | refine wk_cond_f rfl ?_ | (refine wk_exit ?_; (repeat (refine blockK_other rfl ?_)); refine blockK_same ?_; try ((repeat ((fail_if_success (refine hK _ _ ?_)); clear hK K)); refine hK _ _ ?_; clear hK K)) | (refine a_bin ?_ ?_ <;> intro _ <;> try (exfalso; omega)) | refine a_ld hl ?_ | (refine a_st hl ?_; clear hl; intro _ hl) | refine a_ix (fun _ => ?_) | fail)
        refine wk_tree [1, 2, 4, 5, 6, 7, 8, 11] [2, 5, 8] [0, 3, 9, 10, 12] [] [] (fun w' => To w6 w' w6.heap) (fun w' => Ext w6 w') rfl (by kernel_rfl) (fun _ _ _ _ h => by first | exact h | (simp only [BlockK, NoGoto, RetQ] at h)) (fun _ h => h) (fun w' h => Upd.of_heap h) ?_
        repeat' (first | refine q_mov ?_ | refine q_asg ?_ | refine q_fa ?_ | refine q_ext ?_ | refine q_binN ?_ | refine q_notd ?_ | refine q_notb ?_ | refine q_pick_t ?_ | refine q_pick_f ?_ | refine q_nilc ?_ | refine q_skip ?_ | refine q_lens ?_ | refine q_lenv ?_ | refine q_nil ?_ | refine q_ix (fun _ => ?_) | (refine q_bin ?_ ?_ <;> intro _ <;> try (exfalso; omega)) | refine q_idx (c := 1) k hmp ?_ | refine q_late rfl rfl rfl rfl (fun w' hw' => r_load rfl rfl ((hrX.ext hw') 0 _ rfl)) ?_ | refine q_late rfl rfl rfl rfl (fun w' hw' => r_load rfl rfl ((hrM.ext hw') 0 _ rfl)) ?_ | refine q_late rfl rfl rfl rfl (fun w' hw' => r_load rfl rfl ((hmr.ext hw') 0 _ rfl)) ?_ | fail)
        intro w7 hw7
        have hlh : LH w6 (fun _ => False) w7 [] := (LH.start w6 _).heap hw7
        clear hw7
        refine opsT_2 (i := 0) (i' := 9) (by kernel_rfl) rfl rfl rfl rfl ?_ ?_
        · refine o_buildSlice0 hlh rfl rfl rfl ?_
          clear hlh
          intro b0 wa hb0 hlh
          refine o_nil ⟨.inl hlh.done, ?_⟩
          refine opsT_2 (i := 3) (i' := 9) (by kernel_rfl) rfl rfl rfl rfl ?_ ?_
          · have hlh : LH _ _ _ ([] ++ [_]) := hlh
            refine o_appendS (k := 1) (bytes := 16) (q := tk.length) (us := strL tk) hlh (Acc.empty 1 9 b0) (hsl.ext hlh.done) hsll (by decide) hsone (by omega) (by omega) rfl rfl rfl rfl rfl rfl ?_
            clear hlh
            intro v1 wb acc hlh hacc
            rw [Nat.zero_add, List.nil_append] at hacc
            obtain ⟨x1, y1, rfl⟩ := hacc.shape
            refine o_nil ⟨.inl hlh.done, ?_⟩
            refine opsT_1 (i := 9) (by kernel_rfl) rfl rfl ?_
            refine o_buildSlice hlh ([str m.texts[k]]) rfl rfl (bs1 m.texts[k]) ?_
            clear hlh
            intro b4 wc hb4 hlh
            refine o_nil ⟨.inl hlh.done, ?_⟩
            have hlh : LH _ _ _ ([_] ++ acc) := hlh
            refine opsT_1 (i := 10) (by kernel_rfl) rfl rfl ?_
            refine o_append (k := 1) (bytes := 16) (m := tk.length) (q := 1) (us := [str m.texts[k]]) hlh hacc (hlh.rowL (vs := [str m.texts[k]]) 0 0 1 rfl) rfl hxone (by omega) (by omega) (by omega) rfl rfl rfl rfl rfl ?_
            clear hlh hacc
            intro v2 wd acc2 hlh hacc
            obtain ⟨x2, y2, rfl⟩ := hacc.shape
            refine o_nil ⟨.inl hlh.done, ?_⟩
            refine opsT_1 (i := 12) (by kernel_rfl) rfl rfl ?_
            have hA := (hownA.ext hlh.done).owned
            refine o_put1 (v := .slice x2 (tk.length + 1) y2) hA rfl rfl rfl ⟨rfl, rfl⟩ rfl (.here rfl rfl) ?_
            intro w8 h6
            refine o_nil ⟨.inr (by kernel_rfl), ?_⟩
            refine opsT_nil ?_
            unfold PostQ
            refine q_nil ?_
            exact ⟨(), ⟨rfl, rfl, rfl, rfl, rfl, rfl, trivial⟩, rfl, hfinX _ _ _ hlh.done h6 (SlO.freshD (hlh.sub (List.sublist_append_right _ _)) hacc hD6)⟩
          · skip
            refine o_buildSlice hlh ([str m.texts[k]]) rfl rfl (bs1 m.texts[k]) ?_
            clear hlh
            intro b4 wc hb4 hlh
            refine o_nil ⟨.inl hlh.done, ?_⟩
            have hlh : LH _ _ _ ([_] ++ [_]) := hlh
            refine opsT_1 (i := 3) (by kernel_rfl) rfl rfl ?_
            refine o_appendS (k := 1) (bytes := 16) (q := tk.length) (us := strL tk) hlh (Acc.empty 1 9 b0) (hsl.ext hlh.done) hsll (by decide) hsone (by omega) (by omega) rfl rfl rfl rfl rfl rfl ?_
            clear hlh
            intro v1 wb acc hlh hacc
            rw [Nat.zero_add, List.nil_append] at hacc
            obtain ⟨x1, y1, rfl⟩ := hacc.shape
            refine o_nil ⟨.inl hlh.done, ?_⟩
            refine opsT_1 (i := 10) (by kernel_rfl) rfl rfl ?_
            refine o_append (k := 1) (bytes := 16) (m := tk.length) (q := 1) (us := [str m.texts[k]]) hlh hacc (hlh.rowL (vs := [str m.texts[k]]) 0 0 1 rfl) rfl hxone (by omega) (by omega) (by omega) rfl rfl rfl rfl rfl ?_
            clear hlh hacc
            intro v2 wd acc2 hlh hacc
            obtain ⟨x2, y2, rfl⟩ := hacc.shape
            refine o_nil ⟨.inl hlh.done, ?_⟩
            refine opsT_1 (i := 12) (by kernel_rfl) rfl rfl ?_
            have hA := (hownA.ext hlh.done).owned
            refine o_put1 (v := .slice x2 (tk.length + 1) y2) hA rfl rfl rfl ⟨rfl, rfl⟩ rfl (.here rfl rfl) ?_
            intro w8 h6
            refine o_nil ⟨.inr (by kernel_rfl), ?_⟩
            refine opsT_nil ?_
            unfold PostQ
            refine q_nil ?_
            exact ⟨(), ⟨rfl, rfl, rfl, rfl, rfl, rfl, trivial⟩, rfl, hfinX _ _ _ hlh.done h6 (SlO.freshD (hlh.sub (List.sublist_append_right _ _)) hacc hD6)⟩
        · skip
          refine o_buildSlice hlh ([str m.texts[k]]) rfl rfl (bs1 m.texts[k]) ?_
          clear hlh
          intro b4 wc hb4 hlh
          refine o_nil ⟨.inl hlh.done, ?_⟩
          refine opsT_1 (i := 0) (by kernel_rfl) rfl rfl ?_
          refine o_buildSlice0 hlh rfl rfl rfl ?_
          clear hlh
          intro b0 wa hb0 hlh
          refine o_nil ⟨.inl hlh.done, ?_⟩
          replace hlh := hlh.perm (List.Perm.swap _ _ _)
          have hlh : LH _ _ _ ([_] ++ [_]) := hlh
          refine opsT_1 (i := 3) (by kernel_rfl) rfl rfl ?_
          refine o_appendS (k := 1) (bytes := 16) (q := tk.length) (us := strL tk) hlh (Acc.empty 1 9 b0) (hsl.ext hlh.done) hsll (by decide) hsone (by omega) (by omega) rfl rfl rfl rfl rfl rfl ?_
          clear hlh
          intro v1 wb acc hlh hacc
          rw [Nat.zero_add, List.nil_append] at hacc
          obtain ⟨x1, y1, rfl⟩ := hacc.shape
          refine o_nil ⟨.inl hlh.done, ?_⟩
          refine opsT_1 (i := 10) (by kernel_rfl) rfl rfl ?_
          refine o_append (k := 1) (bytes := 16) (m := tk.length) (q := 1) (us := [str m.texts[k]]) hlh hacc (hlh.rowL (vs := [str m.texts[k]]) 0 0 1 rfl) rfl hxone (by omega) (by omega) (by omega) rfl rfl rfl rfl rfl ?_
          clear hlh hacc
          intro v2 wd acc2 hlh hacc
          obtain ⟨x2, y2, rfl⟩ := hacc.shape
          refine o_nil ⟨.inl hlh.done, ?_⟩
          refine opsT_1 (i := 12) (by kernel_rfl) rfl rfl ?_
          have hA := (hownA.ext hlh.done).owned
          refine o_put1 (v := .slice x2 (tk.length + 1) y2) hA rfl rfl rfl ⟨rfl, rfl⟩ rfl (.here rfl rfl) ?_
          intro w8 h6
          refine o_nil ⟨.inr (by kernel_rfl), ?_⟩
          refine opsT_nil ?_
          unfold PostQ
          refine q_nil ?_
          exact ⟨(), ⟨rfl, rfl, rfl, rfl, rfl, rfl, trivial⟩, rfl, hfinX _ _ _ hlh.done h6 (SlO.freshD (hlh.sub (List.sublist_append_right _ _)) hacc hD6)⟩
    clear hown5 hok5 hx5 hs5 hownX hrM hrX hownR
    rintro _ t7 w7 ⟨xv, hown7, hok7, hx7, hs7⟩
    refine hKs _ _ ?_
    clear hKs Ks
    have hb1' : b < s1.n := by rw [hn1]; exact hb
    have ha1' : a < s1.n := by rw [hn1]; exact ha
    have hgs := hok7.g b a hb1' ha1'
    rw [setPr_peer, if_pos ⟨rfl, rfl⟩] at hgs
    dsimp only at hgs
    have hownR : LH w (Go.Pd.In (R.bl s.n)) w7 (R5.bl s.n) := hown7.sub (List.sublist_append_left _ _)
    have hownX : LH w (Go.Pd.In (R.bl s.n)) w7 ([msgB b11 (.slice x3 m.texts.length c3, m)] ++ [(b12, .cells [xv, arrV (R2.hb b) s.n s.n, arrV (R2.kb b) s.n s.n, arrV (R2.gb b) s.n s.n].toArray 74 (0, 0))]) := hown7.sub (List.sublist_append_right _ _)
    have hrM : Row w7 b11 0 (msgC (.slice x3 m.texts.length c3, m)) := hownX.rowL (vs := msgC (.slice x3 m.texts.length c3, m)) 0 0 3 rfl
    have hrX : Row w7 b12 0 [xv, arrV (R2.hb b) s.n s.n, arrV (R2.kb b) s.n s.n, arrV (R2.gb b) s.n s.n] := hownX.rowL (vs := [xv, arrV (R2.hb b) s.n s.n, arrV (R2.kb b) s.n s.n, arrV (R2.gb b) s.n s.n]) 1 0 4 rfl
    have hrG := RefB.rG hownR hb ha
    rw [← hgb5] at hrX
    obtain ⟨mb, mo, hmp, hmr⟩ := Sl.tx hs7.1 rfl hk1
    refine wk_cut [] (fun _ : Unit => [(0, .pointer (some ⟨R.p, 0, none⟩)), (1, .int .i64 (a : Int)), (2, .int .i64 (b : Int)), (11, .pointer (some ⟨b11, 0, none⟩)), (12, .pointer (some ⟨b12, 0, none⟩)), (13, .int .i64 (k : Int))])
      (fun _ w' => ∃ R6 : RefB, (R6.p = R.p ∧ R6.Y = (fun x => R2.Y x ∨ x = b12) ∧ R6.hb = R2.hb ∧ R6.kb = R2.kb ∧ R6.gb = R2.gb) ∧ LH w (Go.Pd.In (R.bl s.n)) w' (R6.bl s.n ++ ([msgB b11 (.slice x3 m.texts.length c3, m)] ++ [(b12, .cells [xv, arrV (R2.hb b) s.n s.n, arrV (R2.kb b) s.n s.n, arrV (R2.gb b) s.n s.n].toArray 74 (0, 0))])) ∧ RefOK R6 (setPr s1 b a ⟨h0, k0, addT gk m.texts[k]⟩) w' ∧ SlO (R6.D s.n) w' xv 1 (sLs (addT tk m.texts[k])) ∧ SlO (R6.D s.n) w' (.slice x3 m.texts.length c3) 1 (sLs m.texts)) ?_ ?_
    · obtain ⟨bb, hbb⟩ : ∃ bb, bb = decide (m.texts[k] ∈ gk) := ⟨_, rfl⟩
      have hcall : ∀ w', Ext w7 w' → Calls Try.prog 29 #[R5.gv b a, str m.texts[k]] w' (fun e w'' => ∃ x, e = .returned x ∧ x = .bool bb ∧ Ext w' w'') := fun w' hw' => by
        rw [hbb]
        exact in_calls (l := gk) m.texts[k] (hgs.1.ext hw') (by omega)
      repeat' (first | refine a_mov ?_ | refine a_asg ?_ | refine a_binN ?_ | refine a_notd ?_ | refine a_notb ?_ | refine a_nilc ?_ | refine a_fa ?_ | refine a_ext ?_ | refine a_lenv ?_ | refine a_lens ?_ | refine a_pick_t ?_ | refine a_pick_f ?_ | refine a_not ?_ | refine a_nilf ?_ | (refine o_nil (hK _ _ ?_); clear hK K) | refine wk_reg ?_ | refine wk_seq fun K hK => ?_ | (refine wk_skip (hK _ _ ?_); clear hK K) | (refine wk_label (hK _ _ ?_); clear hK K) | refine wk_scope ?_ | refine wk_block ?_ | refine wk_cond_t rfl ?_ | refine wk_cond_f rfl ?_ | (refine wk_exit ?_; (repeat (refine blockK_other rfl ?_)); refine blockK_same ?_; try ((repeat ((fail_if_success (refine hK _ _ ?_)); clear hK K)); refine hK _ _ ?_; clear hK K)) | (refine a_bin ?_ ?_ <;> intro _ <;> try (exfalso; omega)) | refine a_ld hl ?_ | (refine a_st hl ?_; clear hl; intro _ hl) | refine a_ix (fun _ => ?_) | fail)
      refine wk_quiet [0, 1, 2, 3, 4, 5, 6, 7, 8, 9, 10, 11] ?_
      repeat' (first | refine q_mov ?_ | refine q_asg ?_ | refine q_fa ?_ | refine q_ext ?_ | refine q_binN ?_ | refine q_notd ?_ | refine q_notb ?_ | refine q_pick_t ?_ | refine q_pick_f ?_ | refine q_nilc ?_ | refine q_skip ?_ | refine q_lens ?_ | refine q_lenv ?_ | refine q_nil ?_ | refine q_ix (fun _ => ?_) | (refine q_bin ?_ ?_ <;> intro _ <;> try (exfalso; omega)) | refine q_row (fun w_ hw_ => hrX.ext hw_) ?_ | refine q_row (fun w_ hw_ => hrM.ext hw_) ?_ | refine q_idx (c := 1) k hmp ?_ | refine q_idx (c := 1) a rfl ?_ | refine q_row (fun w_ hw_ => hrG.ext hw_) ?_ | refine q_row (fun w_ hw_ => hmr.ext hw_) ?_ | refine q_fn hcall ?_ | fail)
      intro w8 hw8
      refine hK _ _ ?_
      clear hK K hcall
      replace hown7 := hown7.ext hw8
      replace hok7 := hok7.ext hw8
      replace hx7 := hx7.ext hw8
      replace hs7 := hs7.ext hw8
      replace hownR := hownR.ext hw8
      replace hrM := hrM.ext hw8
      replace hrX := hrX.ext hw8
      replace hrG := hrG.ext hw8
      replace hmr := hmr.ext hw8
      replace hgs := hgs.ext hw8
      clear hw8
      by_cases hin : m.texts[k] ∈ gk
      · rw [hbb, decide_eq_true hin]
        repeat' (first | refine a_mov ?_ | refine a_asg ?_ | refine a_binN ?_ | refine a_notd ?_ | refine a_notb ?_ | refine a_nilc ?_ | refine a_fa ?_ | refine a_ext ?_ | refine a_lenv ?_ | refine a_lens ?_ | refine a_pick_t ?_ | refine a_pick_f ?_ | refine a_not ?_ | refine a_nilf ?_ | (refine o_nil (hK _ _ ?_); clear hK K) | refine wk_reg ?_ | refine wk_seq fun K hK => ?_ | (refine wk_skip (hK _ _ ?_); clear hK K) | (refine wk_label (hK _ _ ?_); clear hK K) | refine wk_scope ?_ | refine wk_block ?_ | refine wk_cond_t rfl ?_ | refine wk_cond_f rfl ?_ | (refine wk_exit ?_; (repeat (refine blockK_other rfl ?_)); refine blockK_same ?_; try ((repeat ((fail_if_success (refine hK _ _ ?_)); clear hK K)); refine hK _ _ ?_; clear hK K)) | (refine a_bin ?_ ?_ <;> intro _ <;> try (exfalso; omega)) | refine a_ld hl ?_ | (refine a_st hl ?_; clear hl; intro _ hl) | refine a_ix (fun _ => ?_) | fail)
        exact wk_skip ⟨(), ⟨rfl, rfl, rfl, rfl, rfl, rfl, trivial⟩, rfl, R5, ⟨hp5, hY5, hhb5, hkb5, hgb5⟩, hown7, by rw [show addT gk m.texts[k] = gk from if_pos hin]; exact hok7, hx7, hs7⟩
      · rw [hbb, decide_eq_false hin]
        have hadd : addT gk m.texts[k] = gk ++ [m.texts[k]] := if_neg hin
        have hsl := hgs.1
        have hsll := strL_len gk
        have hsone := strL_one gk
        have hxone : [str m.texts[k]].all Value.oneCell' = true := by simp [oneCell_str]
        have hfinG : ∀ (v : Value) (wd w9 : World), Ext w8 wd → LH wd (Go.Pd.In (R5.bl s.n)) w9 (RefB.bl { R5 with gv := upd2 R5.gv b a v } s.n) → SlO (RefB.D { R5 with gv := upd2 R5.gv b a v } s.n) w9 v 1 (strL gk ++ [str m.texts[k]]) → ∃ R6 : RefB, (R6.p = R.p ∧ R6.Y = (fun x => R2.Y x ∨ x = b12) ∧ R6.hb = R2.hb ∧ R6.kb = R2.kb ∧ R6.gb = R2.gb) ∧ LH w (Go.Pd.In (R.bl s.n)) w9 (R6.bl s.n ++ ([msgB b11 (.slice x3 m.texts.length c3, m)] ++ [(b12, .cells [xv, arrV (R2.hb b) s.n s.n, arrV (R2.kb b) s.n s.n, arrV (R2.gb b) s.n s.n].toArray 74 (0, 0))])) ∧ RefOK R6 (setPr s1 b a ⟨h0, k0, addT gk m.texts[k]⟩) w9 ∧ SlO (R6.D s.n) w9 xv 1 (sLs (addT tk m.texts[k])) ∧ SlO (R6.D s.n) w9 (.slice x3 m.texts.length c3) 1 (sLs m.texts) := fun v wd w9 he h6 hv => by
          have h6' : LH wd (Go.Pd.In (R5.bl s1.n)) w9 (RefB.bl { R5 with gv := upd2 R5.gv b a v } s1.n) := by rw [hn1]; exact h6
          have hsame : ∀ i j, i < s1.n → j < s1.n → (((setPr s1 b a ⟨h0, k0, addT gk m.texts[k]⟩).node i).peer j).heard = (((setPr s1 b a ⟨h0, k0, gk⟩).node i).peer j).heard ∧ (((setPr s1 b a ⟨h0, k0, addT gk m.texts[k]⟩).node i).peer j).known = (((setPr s1 b a ⟨h0, k0, gk⟩).node i).peer j).known := fun i j _ _ => by
            rw [setPr_peer, setPr_peer]
            split <;> exact ⟨rfl, rfl⟩
          refine ⟨{ R5 with gv := upd2 R5.gv b a v }, ⟨hp5, hY5, hhb5, hkb5, hgb5⟩, (hown7.ext he).focus h6, (hok7.ext he).moved (s' := setPr s1 b a ⟨h0, k0, addT gk m.texts[k]⟩) h6' rfl rfl (fun i _ => .inl ⟨rfl, by rw [setPr_texts, setPr_texts]⟩) (fun i j _ _ => ?_) (fun _ _ _ _ => .inl ⟨rfl, rfl, rfl⟩) hok7.a (fun i j hi hj => by rw [(hsame i j hi hj).1]; exact hok7.h i j hi hj) (fun i j hi hj => by rw [(hsame i j hi hj).2]; exact hok7.k i j hi hj) hok7.c, (hx7.ext he).stepX (X := R5.Y) h6, (hs7.ext he).stepX (X := R5.Y) h6⟩
          by_cases e : i = b ∧ j = a
          · obtain ⟨rfl, rfl⟩ := e
            right
            rw [setPr_peer, if_pos ⟨rfl, rfl⟩]
            show SlO (RefB.D { R5 with gv := upd2 R5.gv i j v } s1.n) w9 (upd2 R5.gv i j v i j) 1 (sLs (addT gk m.texts[k]))
            rw [upd2_same, hadd, sLs, List.map_append, hn1]
            exact hv
          · left
            refine ⟨upd2_ne _ _ e, ?_⟩
            rw [setPr_peer, setPr_peer, if_neg e, if_neg e]
        repeat' (first | refine a_mov ?_ | refine a_asg ?_ | refine a_binN ?_ | refine a_notd ?_ | refine a_notb ?_ | refine a_nilc ?_ | refine a_fa ?_ | refine a_ext ?_ | refine a_lenv ?_ | refine a_lens ?_ | refine a_pick_t ?_ | refine a_pick_f ?_ | refine a_not ?_ | refine a_nilf ?_ | (refine o_nil (hK _ _ ?_); clear hK K) | refine wk_reg ?_ | refine wk_seq fun K hK => ?_ | (refine wk_skip (hK _ _ ?_); clear hK K) | (refine wk_label (hK _ _ ?_); clear hK K) | refine wk_scope ?_ | refine wk_block ?_ | refine wk_cond_t rfl ?_ | refine wk_cond_f rfl ?_ | (refine wk_exit ?_; (repeat (refine blockK_other rfl ?_)); refine blockK_same ?_; try ((repeat ((fail_if_success (refine hK _ _ ?_)); clear hK K)); refine hK _ _ ?_; clear hK K)) | (refine a_bin ?_ ?_ <;> intro _ <;> try (exfalso; omega)) | refine a_ld hl ?_ | (refine a_st hl ?_; clear hl; intro _ hl) | refine a_ix (fun _ => ?_) | fail)
        refine wk_tree [0, 1, 2, 4, 5, 6, 7, 8, 10, 11, 12, 13, 14, 17] [1, 5, 8, 11, 14] [3, 9, 15, 16, 18] [] [] (fun w' => To w8 w' w8.heap) (fun w' => Ext w8 w') rfl (by kernel_rfl) (fun _ _ _ _ h => by first | exact h | (simp only [BlockK, NoGoto, RetQ] at h)) (fun _ h => h) (fun w' h => Upd.of_heap h) ?_
        repeat' (first | refine q_mov ?_ | refine q_asg ?_ | refine q_fa ?_ | refine q_ext ?_ | refine q_binN ?_ | refine q_notd ?_ | refine q_notb ?_ | refine q_pick_t ?_ | refine q_pick_f ?_ | refine q_nilc ?_ | refine q_skip ?_ | refine q_lens ?_ | refine q_lenv ?_ | refine q_nil ?_ | refine q_ix (fun _ => ?_) | (refine q_bin ?_ ?_ <;> intro _ <;> try (exfalso; omega)) | refine q_idx (c := 1) k hmp ?_ | refine q_idx (c := 1) a rfl ?_ | refine q_late rfl rfl rfl rfl (fun w' hw' => r_load rfl rfl ((hrX.ext hw') 3 _ rfl)) ?_ | refine q_late rfl rfl rfl rfl (fun w' hw' => r_load rfl rfl ((hrM.ext hw') 0 _ rfl)) ?_ | refine q_late rfl rfl rfl rfl (fun w' hw' => r_load rfl rfl ((hrG.ext hw') 0 _ rfl)) ?_ | refine q_late rfl rfl rfl rfl (fun w' hw' => r_load rfl rfl ((hmr.ext hw') 0 _ rfl)) ?_ | fail)
        intro w9 hw9
        have hlh : LH w8 (fun _ => False) w9 [] := (LH.start w8 _).heap hw9
        clear hw9
        refine opsT_2 (i := 3) (i' := 15) (by kernel_rfl) rfl rfl rfl rfl ?_ ?_
        · refine o_buildSlice0 hlh rfl rfl rfl ?_
          clear hlh
          intro b0 wa hb0 hlh
          refine o_nil ⟨.inl hlh.done, ?_⟩
          refine opsT_2 (i := 9) (i' := 15) (by kernel_rfl) rfl rfl rfl rfl ?_ ?_
          · have hlh : LH _ _ _ ([] ++ [_]) := hlh
            refine o_appendS (k := 1) (bytes := 16) (q := gk.length) (us := strL gk) hlh (Acc.empty 1 9 b0) (hsl.ext hlh.done) hsll (by decide) hsone (by omega) (by omega) rfl rfl rfl rfl rfl rfl ?_
            clear hlh
            intro v1 wb acc hlh hacc
            rw [Nat.zero_add, List.nil_append] at hacc
            obtain ⟨x1, y1, rfl⟩ := hacc.shape
            refine o_nil ⟨.inl hlh.done, ?_⟩
            refine opsT_1 (i := 15) (by kernel_rfl) rfl rfl ?_
            refine o_buildSlice hlh ([str m.texts[k]]) rfl rfl (bs1 m.texts[k]) ?_
            clear hlh
            intro b4 wc hb4 hlh
            refine o_nil ⟨.inl hlh.done, ?_⟩
            have hlh : LH _ _ _ ([_] ++ acc) := hlh
            refine opsT_1 (i := 16) (by kernel_rfl) rfl rfl ?_
            refine o_append (k := 1) (bytes := 16) (m := gk.length) (q := 1) (us := [str m.texts[k]]) hlh hacc (hlh.rowL (vs := [str m.texts[k]]) 0 0 1 rfl) rfl hxone (by omega) (by omega) (by omega) rfl rfl rfl rfl rfl ?_
            clear hlh hacc
            intro v2 wd acc2 hlh hacc
            obtain ⟨x2, y2, rfl⟩ := hacc.shape
            refine o_nil ⟨.inl hlh.done, ?_⟩
            refine opsT_1 (i := 18) (by kernel_rfl) rfl rfl ?_
            refine o_store (RefB.atRow (hownR.ext hlh.done) (kd := 2) hb (by omega)) 0 [.slice x2 (gk.length + 1) y2] rfl rfl rfl rfl rfl (flt_len (c := 1) (fun _ => rfl) [] ha) rfl ?_
            intro w8 h6
            have hself := RefB.setGv (.slice x2 (gk.length + 1) y2) hb ha h6 (hownR.ext hlh.done).owned
            have hleaf := RefOK.leaf (R := R5) (R' := { R5 with gv := upd2 R5.gv b a (.slice x2 (gk.length + 1) y2) }) hownR.owned hok7.ys hlh hacc rfl hself
            refine o_nil ⟨.inr (by kernel_rfl), ?_⟩
            refine opsT_nil ?_
            unfold PostQ
            refine q_nil ?_
            exact ⟨(), ⟨rfl, rfl, rfl, rfl, rfl, rfl, trivial⟩, rfl, hfinG _ _ _ hlh.done hself hleaf⟩
          · skip
            refine o_buildSlice hlh ([str m.texts[k]]) rfl rfl (bs1 m.texts[k]) ?_
            clear hlh
            intro b4 wc hb4 hlh
            refine o_nil ⟨.inl hlh.done, ?_⟩
            have hlh : LH _ _ _ ([_] ++ [_]) := hlh
            refine opsT_1 (i := 9) (by kernel_rfl) rfl rfl ?_
            refine o_appendS (k := 1) (bytes := 16) (q := gk.length) (us := strL gk) hlh (Acc.empty 1 9 b0) (hsl.ext hlh.done) hsll (by decide) hsone (by omega) (by omega) rfl rfl rfl rfl rfl rfl ?_
            clear hlh
            intro v1 wb acc hlh hacc
            rw [Nat.zero_add, List.nil_append] at hacc
            obtain ⟨x1, y1, rfl⟩ := hacc.shape
            refine o_nil ⟨.inl hlh.done, ?_⟩
            refine opsT_1 (i := 16) (by kernel_rfl) rfl rfl ?_
            refine o_append (k := 1) (bytes := 16) (m := gk.length) (q := 1) (us := [str m.texts[k]]) hlh hacc (hlh.rowL (vs := [str m.texts[k]]) 0 0 1 rfl) rfl hxone (by omega) (by omega) (by omega) rfl rfl rfl rfl rfl ?_
            clear hlh hacc
            intro v2 wd acc2 hlh hacc
            obtain ⟨x2, y2, rfl⟩ := hacc.shape
            refine o_nil ⟨.inl hlh.done, ?_⟩
            refine opsT_1 (i := 18) (by kernel_rfl) rfl rfl ?_
            refine o_store (RefB.atRow (hownR.ext hlh.done) (kd := 2) hb (by omega)) 0 [.slice x2 (gk.length + 1) y2] rfl rfl rfl rfl rfl (flt_len (c := 1) (fun _ => rfl) [] ha) rfl ?_
            intro w8 h6
            have hself := RefB.setGv (.slice x2 (gk.length + 1) y2) hb ha h6 (hownR.ext hlh.done).owned
            have hleaf := RefOK.leaf (R := R5) (R' := { R5 with gv := upd2 R5.gv b a (.slice x2 (gk.length + 1) y2) }) hownR.owned hok7.ys hlh hacc rfl hself
            refine o_nil ⟨.inr (by kernel_rfl), ?_⟩
            refine opsT_nil ?_
            unfold PostQ
            refine q_nil ?_
            exact ⟨(), ⟨rfl, rfl, rfl, rfl, rfl, rfl, trivial⟩, rfl, hfinG _ _ _ hlh.done hself hleaf⟩
        · skip
          refine o_buildSlice hlh ([str m.texts[k]]) rfl rfl (bs1 m.texts[k]) ?_
          clear hlh
          intro b4 wc hb4 hlh
          refine o_nil ⟨.inl hlh.done, ?_⟩
          refine opsT_1 (i := 3) (by kernel_rfl) rfl rfl ?_
          refine o_buildSlice0 hlh rfl rfl rfl ?_
          clear hlh
          intro b0 wa hb0 hlh
          refine o_nil ⟨.inl hlh.done, ?_⟩
          replace hlh := hlh.perm (List.Perm.swap _ _ _)
          have hlh : LH _ _ _ ([_] ++ [_]) := hlh
          refine opsT_1 (i := 9) (by kernel_rfl) rfl rfl ?_
          refine o_appendS (k := 1) (bytes := 16) (q := gk.length) (us := strL gk) hlh (Acc.empty 1 9 b0) (hsl.ext hlh.done) hsll (by decide) hsone (by omega) (by omega) rfl rfl rfl rfl rfl rfl ?_
          clear hlh
          intro v1 wb acc hlh hacc
          rw [Nat.zero_add, List.nil_append] at hacc
          obtain ⟨x1, y1, rfl⟩ := hacc.shape
          refine o_nil ⟨.inl hlh.done, ?_⟩
          refine opsT_1 (i := 16) (by kernel_rfl) rfl rfl ?_
          refine o_append (k := 1) (bytes := 16) (m := gk.length) (q := 1) (us := [str m.texts[k]]) hlh hacc (hlh.rowL (vs := [str m.texts[k]]) 0 0 1 rfl) rfl hxone (by omega) (by omega) (by omega) rfl rfl rfl rfl rfl ?_
          clear hlh hacc
          intro v2 wd acc2 hlh hacc
          obtain ⟨x2, y2, rfl⟩ := hacc.shape
          refine o_nil ⟨.inl hlh.done, ?_⟩
          refine opsT_1 (i := 18) (by kernel_rfl) rfl rfl ?_
          refine o_store (RefB.atRow (hownR.ext hlh.done) (kd := 2) hb (by omega)) 0 [.slice x2 (gk.length + 1) y2] rfl rfl rfl rfl rfl (flt_len (c := 1) (fun _ => rfl) [] ha) rfl ?_
          intro w8 h6
          have hself := RefB.setGv (.slice x2 (gk.length + 1) y2) hb ha h6 (hownR.ext hlh.done).owned
          have hleaf := RefOK.leaf (R := R5) (R' := { R5 with gv := upd2 R5.gv b a (.slice x2 (gk.length + 1) y2) }) hownR.owned hok7.ys hlh hacc rfl hself
          refine o_nil ⟨.inr (by kernel_rfl), ?_⟩
          refine opsT_nil ?_
          unfold PostQ
          refine q_nil ?_
          exact ⟨(), ⟨rfl, rfl, rfl, rfl, rfl, rfl, trivial⟩, rfl, hfinG _ _ _ hlh.done hself hleaf⟩
    clear hown7 hok7 hx7 hs7 hownX hrM hrX hownR hrG hgs
    rintro _ t9 w9 ⟨R6, hpr6, hown9, hok9, hx9, hs9⟩
    refine hKb _ _ ?_
    clear hKb Kb
    rw [← htk] at hx9
    rw [← hgk] at hok9
    repeat' (first | refine a_mov ?_ | refine a_asg ?_ | refine a_binN ?_ | refine a_notd ?_ | refine a_notb ?_ | refine a_nilc ?_ | refine a_fa ?_ | refine a_ext ?_ | refine a_lenv ?_ | refine a_lens ?_ | refine a_pick_t ?_ | refine a_pick_f ?_ | refine a_not ?_ | refine a_nilf ?_ | (refine o_nil (hK _ _ ?_); clear hK K) | refine wk_reg ?_ | refine wk_seq fun K hK => ?_ | (refine wk_skip (hK _ _ ?_); clear hK K) | (refine wk_label (hK _ _ ?_); clear hK K) | refine wk_scope ?_ | refine wk_block ?_ | refine wk_cond_t rfl ?_ | refine wk_cond_f rfl ?_ | (refine wk_exit ?_; (repeat (refine blockK_other rfl ?_)); refine blockK_same ?_; try ((repeat ((fail_if_success (refine hK _ _ ?_)); clear hK K)); refine hK _ _ ?_; clear hK K)) | (refine a_bin ?_ ?_ <;> intro _ <;> try (exfalso; omega)) | refine a_ld hl ?_ | (refine a_st hl ?_; clear hl; intro _ hl) | refine a_ix (fun _ => ?_) | fail)
    refine o_nil ⟨k + 1, ⟨rfl, rfl, rfl, rfl, rfl, rfl, trivial⟩, rfl, ⟨hk1, R6, xv, hpr6, hown9, hok9, hx9, hs9⟩, by omega⟩
  · obtain rfl : k = m.texts.length := by omega
    rw [List.take_length] at hok5 hx5
    have htkl := foldT_lenR m.texts (texts s1 b)
    generalize m.texts.foldl addT (texts s1 b) = tk at *
    generalize m.texts.foldl addT g0 = gk at *
    obtain ⟨ta, tc, hxv, -⟩ := hx5.1.shape (strL_len _) (by omega)
    subst hxv
    have hownR : LH w (Go.Pd.In (R.bl s.n)) w5 (R5.bl s.n) := hown5.sub (List.sublist_append_left _ _)
    have hownX : LH w (Go.Pd.In (R.bl s.n)) w5 ([msgB b11 (.slice x3 m.texts.length c3, m)] ++ [(b12, .cells [.slice ta tk.length tc, arrV (R2.hb b) s.n s.n, arrV (R2.kb b) s.n s.n, arrV (R2.gb b) s.n s.n].toArray 74 (0, 0))]) := hown5.sub (List.sublist_append_right _ _)
    have hrM : Row w5 b11 0 (msgC (.slice x3 m.texts.length c3, m)) := hownX.rowL (vs := msgC (.slice x3 m.texts.length c3, m)) 0 0 3 rfl
    have hrX : Row w5 b12 0 [.slice ta tk.length tc, arrV (R2.hb b) s.n s.n, arrV (R2.kb b) s.n s.n, arrV (R2.gb b) s.n s.n] := hownX.rowL (vs := [.slice ta tk.length tc, arrV (R2.hb b) s.n s.n, arrV (R2.kb b) s.n s.n, arrV (R2.gb b) s.n s.n]) 1 0 4 rfl
    rw [← hhb5, ← hkb5, ← hgb5] at hrX hown5
    have hrH := RefB.rH hownR hb ha
    have hb1' : b < s1.n := by rw [hn1]; exact hb
    have ha1' : a < s1.n := by rw [hn1]; exact ha
    have hhh := hok5.h b a hb1' ha1'
    rw [setPr_peer, if_pos ⟨rfl, rfl⟩] at hhh
    dsimp only at hhh
    rw [hhh] at hrH
    repeat' (first | refine a_mov ?_ | refine a_asg ?_ | refine a_binN ?_ | refine a_notd ?_ | refine a_notb ?_ | refine a_nilc ?_ | refine a_fa ?_ | refine a_ext ?_ | refine a_lenv ?_ | refine a_lens ?_ | refine a_pick_t ?_ | refine a_pick_f ?_ | refine a_not ?_ | refine a_nilf ?_ | (refine o_nil (hK _ _ ?_); clear hK K) | refine wk_reg ?_ | refine wk_seq fun K hK => ?_ | (refine wk_skip (hK _ _ ?_); clear hK K) | (refine wk_label (hK _ _ ?_); clear hK K) | refine wk_scope ?_ | refine wk_block ?_ | refine wk_cond_t rfl ?_ | refine wk_cond_f rfl ?_ | (refine wk_exit ?_; (repeat (refine blockK_other rfl ?_)); refine blockK_same ?_; try ((repeat ((fail_if_success (refine hK _ _ ?_)); clear hK K)); refine hK _ _ ?_; clear hK K)) | (refine a_bin ?_ ?_ <;> intro _ <;> try (exfalso; omega)) | refine a_ld hl ?_ | (refine a_st hl ?_; clear hl; intro _ hl) | refine a_ix (fun _ => ?_) | refine a_row hrM ?_ | fail)
    refine wk_draw [0, 1, 2, 3, 4, 5, 6, 7, 8, 9, 10, 11] [] [12] (fun w' => To w5 w' w5.heap) (fun _ => True) rfl (by kernel_rfl) (fun _ _ _ _ h => by first | exact h | (simp only [BlockK, NoGoto, RetQ] at h)) (fun _ h => h) (fun _ _ => trivial) ?_
    repeat' (first | refine q_mov ?_ | refine q_asg ?_ | refine q_fa ?_ | refine q_ext ?_ | refine q_binN ?_ | refine q_notd ?_ | refine q_notb ?_ | refine q_pick_t ?_ | refine q_pick_f ?_ | refine q_nilc ?_ | refine q_skip ?_ | refine q_lens ?_ | refine q_lenv ?_ | refine q_nil ?_ | refine q_ix (fun _ => ?_) | (refine q_bin ?_ ?_ <;> intro _ <;> try (exfalso; omega)) | refine q_idx (c := 1) a rfl ?_ | refine q_row (fun w_ hw_ => hrX.heap hw_) ?_ | refine q_row (fun w_ hw_ => hrM.heap hw_) ?_ | refine q_row (fun w_ hw_ => hrH.heap hw_) ?_ | refine q_pur rfl rfl rfl (fun _ => r_maxN rfl rfl) ?_ | fail)
    intro w6 hw_
    replace hrX := hrX.heap hw_
    replace hrM := hrM.heap hw_
    replace hown5 := hown5.heap hw_
    replace hok5 := hok5.ext (Upd.of_heap hw_)
    replace hx5 := hx5.ext (Upd.of_heap hw_)
    clear hw_
    refine ops_tail rfl rfl ?_
    refine o_store (RefB.atRow (hown5.sub (List.sublist_append_left _ _)) (kd := 0) hb (by omega)) 0 [.int .i64 ((max h0 m.len : Nat) : Int)] rfl rfl rfl rfl rfl (flt_len (c := 1) (fun _ => rfl) [] ha) rfl ?_
    intro w7 h6
    have hself := RefB.setHd (max h0 m.len) hb ha h6 (hown5.sub (List.sublist_append_left _ _)).owned
    have h6' : LH w6 (Go.Pd.In (R5.bl s1.n)) w7 (RefB.bl { R5 with hd := upd2 R5.hd b a (max h0 m.len) } s1.n) := by rw [hn1]; exact hself
    have hown6 := hown5.focus hself
    have hok6 : RefOK { R5 with hd := upd2 R5.hd b a (max h0 m.len) } (setPr s1 b a ⟨max h0 m.len, k0, gk⟩) w7 := hok5.moved (s' := setPr s1 b a ⟨max h0 m.len, k0, gk⟩) h6' rfl rfl (fun i _ => .inl ⟨rfl, by rw [setPr_texts, setPr_texts]⟩) (fun i j _ _ => .inl ⟨rfl, by rw [setPr_peer, setPr_peer]; split <;> rfl⟩) (fun _ _ _ _ => .inl ⟨rfl, rfl, rfl⟩) hok5.a (fun i j hi hj => by
      have := hok5.h i j hi hj
      rw [setPr_peer] at this ⊢
      by_cases e : i = b ∧ j = a
      · rw [if_pos e]
        show upd2 R5.hd b a (max h0 m.len) i j = max h0 m.len
        rw [e.1, e.2, upd2_same]
      · rw [if_neg e] at this ⊢
        show upd2 R5.hd b a (max h0 m.len) i j = _
        rw [upd2_ne _ _ e]; exact this) (fun i j hi hj => by
      have := hok5.k i j hi hj
      rw [setPr_peer] at this ⊢
      by_cases e : i = b ∧ j = a
      · rw [if_pos e] at this ⊢; exact this
      · rw [if_neg e] at this ⊢; exact this) hok5.c
    replace hx5 := hx5.stepX (X := R5.Y) hself
    replace hrM : Row w7 b11 0 (msgC (.slice x3 m.texts.length c3, m)) := (hown6.sub (List.sublist_append_right _ _)).rowL (vs := msgC (.slice x3 m.texts.length c3, m)) 0 0 3 rfl
    replace hrX : Row w7 b12 0 [.slice ta tk.length tc, arrV (R5.hb b) s.n s.n, arrV (R5.kb b) s.n s.n, arrV (R5.gb b) s.n s.n] := (hown6.sub (List.sublist_append_right _ _)).rowL (vs := [.slice ta tk.length tc, arrV (R5.hb b) s.n s.n, arrV (R5.kb b) s.n s.n, arrV (R5.gb b) s.n s.n]) 1 0 4 rfl
    clear h6 h6' hself hok5 hown5
    refine o_nil ⟨trivial, ?_⟩
    refine ops_nil (hK _ _ ?_)
    clear hK K
    have hrK := RefB.rK (hown6.sub (List.sublist_append_left _ _)) hb ha
    have hkk := hok6.k b a hb1' ha1'
    rw [setPr_peer, if_pos ⟨rfl, rfl⟩] at hkk
    dsimp only at hkk
    rw [hkk] at hrK
    generalize hR6 : ({ R5 with hd := upd2 R5.hd b a (max h0 m.len) } : RefB) = R6 at hown6 hok6 hx5 hrK
    have hkb6 : R6.kb = R5.kb := by rw [← hR6]
    have hhb6 : R6.hb = R5.hb := by rw [← hR6]
    have hgb6 : R6.gb = R5.gb := by rw [← hR6]
    have hp6 : R6.p = R.p := by rw [← hR6]; exact hp5
    have hY6 : R6.Y = fun x => R2.Y x ∨ x = b12 := by rw [← hR6]; exact hY5
    have hY65 : R6.Y = R5.Y := by rw [← hR6]
    rw [← hY65] at hx5
    rw [← hhb6, ← hkb6, ← hgb6] at hown6
    rw [← hhb6, ← hkb6, ← hgb6] at hrX
    clear hR6 hrH hhh hkk
    repeat' (first | refine a_mov ?_ | refine a_asg ?_ | refine a_binN ?_ | refine a_notd ?_ | refine a_notb ?_ | refine a_nilc ?_ | refine a_fa ?_ | refine a_ext ?_ | refine a_lenv ?_ | refine a_lens ?_ | refine a_pick_t ?_ | refine a_pick_f ?_ | refine a_not ?_ | refine a_nilf ?_ | (refine o_nil (hK _ _ ?_); clear hK K) | refine wk_reg ?_ | refine wk_seq fun K hK => ?_ | (refine wk_skip (hK _ _ ?_); clear hK K) | (refine wk_label (hK _ _ ?_); clear hK K) | refine wk_scope ?_ | refine wk_block ?_ | refine wk_cond_t rfl ?_ | refine wk_cond_f rfl ?_ | (refine wk_exit ?_; (repeat (refine blockK_other rfl ?_)); refine blockK_same ?_; try ((repeat ((fail_if_success (refine hK _ _ ?_)); clear hK K)); refine hK _ _ ?_; clear hK K)) | (refine a_bin ?_ ?_ <;> intro _ <;> try (exfalso; omega)) | refine a_ld hl ?_ | (refine a_st hl ?_; clear hl; intro _ hl) | refine a_ix (fun _ => ?_) | fail)
    refine wk_draw [0, 1, 2, 3, 4, 5, 6, 7, 8, 9, 10, 11] [] [12] (fun w' => To w7 w' w7.heap) (fun _ => True) rfl (by kernel_rfl) (fun _ _ _ _ h => by first | exact h | (simp only [BlockK, NoGoto, RetQ] at h)) (fun _ h => h) (fun _ _ => trivial) ?_
    repeat' (first | refine q_mov ?_ | refine q_asg ?_ | refine q_fa ?_ | refine q_ext ?_ | refine q_binN ?_ | refine q_notd ?_ | refine q_notb ?_ | refine q_pick_t ?_ | refine q_pick_f ?_ | refine q_nilc ?_ | refine q_skip ?_ | refine q_lens ?_ | refine q_lenv ?_ | refine q_nil ?_ | refine q_ix (fun _ => ?_) | (refine q_bin ?_ ?_ <;> intro _ <;> try (exfalso; omega)) | refine q_idx (c := 1) a rfl ?_ | refine q_row (fun w_ hw_ => hrX.heap hw_) ?_ | refine q_row (fun w_ hw_ => hrM.heap hw_) ?_ | refine q_row (fun w_ hw_ => hrK.heap hw_) ?_ | refine q_pur rfl rfl rfl (fun _ => r_maxN rfl rfl) ?_ | fail)
    intro w8 hw_
    replace hrX := hrX.heap hw_
    replace hrM := hrM.heap hw_
    replace hown6 := hown6.heap hw_
    replace hok6 := hok6.ext (Upd.of_heap hw_)
    replace hx5 := hx5.ext (Upd.of_heap hw_)
    clear hw_
    refine ops_tail rfl rfl ?_
    refine o_store (RefB.atRow (hown6.sub (List.sublist_append_left _ _)) (kd := 1) hb (by omega)) 0 [.int .i64 ((max k0 m.heard : Nat) : Int)] rfl rfl rfl rfl rfl (flt_len (c := 1) (fun _ => rfl) [] ha) rfl ?_
    intro w9 h6
    have hself := RefB.setKn (max k0 m.heard) hb ha h6 (hown6.sub (List.sublist_append_left _ _)).owned
    have h6' : LH w8 (Go.Pd.In (R6.bl s1.n)) w9 (RefB.bl { R6 with kn := upd2 R6.kn b a (max k0 m.heard) } s1.n) := by rw [hn1]; exact hself
    have hown7 := hown6.focus hself
    have hok7 : RefOK { R6 with kn := upd2 R6.kn b a (max k0 m.heard) } (setPr s1 b a ⟨max h0 m.len, max k0 m.heard, gk⟩) w9 := hok6.moved (s' := setPr s1 b a ⟨max h0 m.len, max k0 m.heard, gk⟩) h6' rfl rfl (fun i _ => .inl ⟨rfl, by rw [setPr_texts, setPr_texts]⟩) (fun i j _ _ => .inl ⟨rfl, by rw [setPr_peer, setPr_peer]; split <;> rfl⟩) (fun _ _ _ _ => .inl ⟨rfl, rfl, rfl⟩) hok6.a (fun i j hi hj => by
      have := hok6.h i j hi hj
      rw [setPr_peer] at this ⊢
      by_cases e : i = b ∧ j = a
      · rw [if_pos e] at this ⊢; exact this
      · rw [if_neg e] at this ⊢; exact this) (fun i j hi hj => by
      have := hok6.k i j hi hj
      rw [setPr_peer] at this ⊢
      by_cases e : i = b ∧ j = a
      · rw [if_pos e]
        show upd2 R6.kn b a (max k0 m.heard) i j = max k0 m.heard
        rw [e.1, e.2, upd2_same]
      · rw [if_neg e] at this ⊢
        show upd2 R6.kn b a (max k0 m.heard) i j = _
        rw [upd2_ne _ _ e]; exact this) hok6.c
    replace hx5 := hx5.stepX (X := R6.Y) hself
    replace hrM : Row w9 b11 0 (msgC (.slice x3 m.texts.length c3, m)) := (hown7.sub (List.sublist_append_right _ _)).rowL (vs := msgC (.slice x3 m.texts.length c3, m)) 0 0 3 rfl
    replace hrX : Row w9 b12 0 [.slice ta tk.length tc, arrV (R6.hb b) s.n s.n, arrV (R6.kb b) s.n s.n, arrV (R6.gb b) s.n s.n] := (hown7.sub (List.sublist_append_right _ _)).rowL (vs := [.slice ta tk.length tc, arrV (R6.hb b) s.n s.n, arrV (R6.kb b) s.n s.n, arrV (R6.gb b) s.n s.n]) 1 0 4 rfl
    clear h6 h6' hself hok6 hown6
    refine o_nil ⟨trivial, ?_⟩
    refine ops_nil (hK _ _ ?_)
    clear hK K
    generalize hR7 : ({ R6 with kn := upd2 R6.kn b a (max k0 m.heard) } : RefB) = R7 at hown7 hok7 hx5
    have hkb7 : R7.kb = R6.kb := by rw [← hR7]
    have hhb7 : R7.hb = R6.hb := by rw [← hR7]
    have hgb7 : R7.gb = R6.gb := by rw [← hR7]
    have hp7 : R7.p = R.p := by rw [← hR7]; exact hp6
    have hY7 : R7.Y = fun x => R2.Y x ∨ x = b12 := by rw [← hR7]; exact hY6
    have hY76 : R7.Y = R6.Y := by rw [← hR7]
    rw [← hY76] at hx5
    rw [← hhb7, ← hkb7, ← hgb7] at hrX
    have hownR7 : LH w (Go.Pd.In (R.bl s.n)) w9 (R7.bl s.n) := hown7.sub (List.sublist_append_left _ _)
    have hr0 := RefB.r0 hownR7
    rw [hp7] at hr0
    clear hR7 hrK
    repeat' (first | refine a_mov ?_ | refine a_asg ?_ | refine a_binN ?_ | refine a_notd ?_ | refine a_notb ?_ | refine a_nilc ?_ | refine a_fa ?_ | refine a_ext ?_ | refine a_lenv ?_ | refine a_lens ?_ | refine a_pick_t ?_ | refine a_pick_f ?_ | refine a_not ?_ | refine a_nilf ?_ | (refine o_nil (hK _ _ ?_); clear hK K) | refine wk_reg ?_ | refine wk_seq fun K hK => ?_ | (refine wk_skip (hK _ _ ?_); clear hK K) | (refine wk_label (hK _ _ ?_); clear hK K) | refine wk_scope ?_ | refine wk_block ?_ | refine wk_cond_t rfl ?_ | refine wk_cond_f rfl ?_ | (refine wk_exit ?_; (repeat (refine blockK_other rfl ?_)); refine blockK_same ?_; try ((repeat ((fail_if_success (refine hK _ _ ?_)); clear hK K)); refine hK _ _ ?_; clear hK K)) | (refine a_bin ?_ ?_ <;> intro _ <;> try (exfalso; omega)) | refine a_ld hl ?_ | (refine a_st hl ?_; clear hl; intro _ hl) | refine a_ix (fun _ => ?_) | fail)
    refine wk_draw [0, 1, 2, 3, 4, 5, 6] [] [7] (fun w' => To w9 w' w9.heap) (fun _ => True) rfl (by kernel_rfl) (fun _ _ _ _ h => by first | exact h | (simp only [BlockK, NoGoto, RetQ] at h)) (fun _ h => h) (fun _ _ => trivial) ?_
    repeat' (first | refine q_mov ?_ | refine q_asg ?_ | refine q_fa ?_ | refine q_ext ?_ | refine q_binN ?_ | refine q_notd ?_ | refine q_notb ?_ | refine q_pick_t ?_ | refine q_pick_f ?_ | refine q_nilc ?_ | refine q_skip ?_ | refine q_lens ?_ | refine q_lenv ?_ | refine q_nil ?_ | refine q_ix (fun _ => ?_) | (refine q_bin ?_ ?_ <;> intro _ <;> try (exfalso; omega)) | refine q_idx (c := 4) b rfl ?_ | refine q_row (fun w_ hw_ => hr0.heap hw_) ?_ | refine q_all (fun w_ hw_ => hrX.heap hw_) ?_ | fail)
    intro w10 hw_
    replace hownR7 := hownR7.heap hw_
    replace hok7 := hok7.ext (Upd.of_heap hw_)
    replace hx5 := hx5.ext (Upd.of_heap hw_)
    clear hw_
    refine ops_tail rfl rfl ?_
    refine o_store (RefB.atTop hownR7 (t := 1) (by omega)) 0 [.slice ta tk.length tc, arrV (R7.hb b) s.n s.n, arrV (R7.kb b) s.n s.n, arrV (R7.gb b) s.n s.n] rfl rfl rfl rfl rfl (by have := flt_len (n := s.n) (f := R7.nodeC s.n) (c := 4) (fun _ => rfl) R7.nj hb; simpa using this) rfl ?_
    intro w11 h6
    have hself := RefB.setTv4 (.slice ta tk.length tc) hb h6 hownR7.owned
    have hown8 := RefB.setTv4 (.slice ta tk.length tc) hb h6 hownR7
    have h6' : LH w10 (Go.Pd.In (R7.bl s1.n)) w11 (RefB.bl { R7 with tv := upd R7.tv b (.slice ta tk.length tc) } s1.n) := by rw [hn1]; exact hself
    have hok8 : RefOK { R7 with tv := upd R7.tv b (.slice ta tk.length tc) } (recv s1 a b m) w11 := by
      rw [hrv]
      refine hok7.moved (s' := setT (setPr s1 b a ⟨max h0 m.len, max k0 m.heard, gk⟩) b tk) h6' rfl rfl (fun i _ => ?_) (fun i j _ _ => .inl ⟨rfl, by rw [setT_peer]⟩) (fun _ _ _ _ => .inl ⟨rfl, rfl, rfl⟩) hok7.a (fun i j hi hj => by rw [setT_peer]; exact hok7.h i j hi hj) (fun i j hi hj => by rw [setT_peer]; exact hok7.k i j hi hj) hok7.c
      by_cases e : i = b
      · subst e
        right
        rw [setT_texts, if_pos rfl]
        show SlO (RefB.D { R7 with tv := upd R7.tv i (.slice ta tk.length tc) } s1.n) w11 (upd R7.tv i (.slice ta tk.length tc) i) 1 _
        rw [upd_same, hn1]
        exact hx5.stepX (X := R7.Y) hself
      · left
        exact ⟨upd_ne _ _ e, by rw [setT_texts, if_neg e]⟩
    refine o_nil ⟨trivial, ?_⟩
    refine ops_nil (hK _ _ ?_)
    clear hK K
    repeat' (first | refine a_mov ?_ | refine a_asg ?_ | refine a_binN ?_ | refine a_notd ?_ | refine a_notb ?_ | refine a_nilc ?_ | refine a_fa ?_ | refine a_ext ?_ | refine a_lenv ?_ | refine a_lens ?_ | refine a_pick_t ?_ | refine a_pick_f ?_ | refine a_not ?_ | refine a_nilf ?_ | (refine o_nil (hK _ _ ?_); clear hK K) | refine wk_reg ?_ | refine wk_seq fun K hK => ?_ | (refine wk_skip (hK _ _ ?_); clear hK K) | (refine wk_label (hK _ _ ?_); clear hK K) | refine wk_scope ?_ | refine wk_block ?_ | refine wk_cond_t rfl ?_ | refine wk_cond_f rfl ?_ | (refine wk_exit ?_; (repeat (refine blockK_other rfl ?_)); refine blockK_same ?_; try ((repeat ((fail_if_success (refine hK _ _ ?_)); clear hK K)); refine hK _ _ ?_; clear hK K)) | (refine a_bin ?_ ?_ <;> intro _ <;> try (exfalso; omega)) | refine a_ld hl ?_ | (refine a_st hl ?_; clear hl; intro _ hl) | refine a_ix (fun _ => ?_) | fail)
    refine wk_ret (retQ_tmp1 Try.results18 (by decide) rfl (by conv => lhs; whnf) ?_)
    refine ⟨by rw [hdb], ?_⟩
    rw [hdl]
    show AftR R.Y (recv s1 a b m) R.p (R.bl s.n) w w11
    exact AftR.mk (R' := { R7 with tv := upd R7.tv b (.slice ta tk.length tc), Y := R.Y }) hp7 (by show LH w _ w11 (RefB.bl _ s1.n); rw [hn1]; exact hown8) (hok8.less (Y := R.Y) fun x hx => by show R7.Y x; rw [hY7, hY2]; exact .inl (.inl hx)) rfl
end Go.Proofs
