/-
  The law's own test: limits run on as they should (w09Runs).
-/
import Derived.Test.YtpmjolbnmoejdaaGreatDoorQToRc
set_option linter.unusedVariables false
set_option linter.unusedSimpArgs false
set_option linter.unnecessarySimpa false
set_option maxRecDepth 10000
namespace Go.Top
theorem runsAll_at {day : Int} {ts : List Lim} : ∀ {l r : List Lim}, runsAll day ts l r = true → l.length = r.length ∧ ∀ i (h1 : i < l.length) (h2 : i < r.length), runsB day ts l[i] r[i] = true
  | [], [], _ => ⟨rfl, fun i h => nomatch h⟩
  | [], b :: r, h => by simp [runsAll] at h
  | a :: l, [], h => by simp [runsAll] at h
  | a :: l, b :: r, h => by
    unfold runsAll at h
    rw [Bool.and_eq_true] at h
    obtain ⟨h1, h2⟩ := runsAll_at h.2
    refine ⟨by simp [h1], fun i hi hj => ?_⟩
    cases i with
    | zero => exact h.1
    | succ i => simpa using h2 i (by simpa using hi) (by simpa using hj)
def lst (ts : List Lim) (l : Lim) (k : Nat) : Int := (ts.take k).foldl (fun z t => if t.id = l.id then t.f else z) (-1)
theorem lst_end (ts : List Lim) (l : Lim) : lst ts l ts.length = leastL ts l := by unfold lst leastL; rw [List.take_length]
theorem lst_succ {ts : List Lim} {l : Lim} {k : Nat} (h : k < ts.length) : lst ts l (k + 1) = if ts[k].id = l.id then ts[k].f else lst ts l k := by
  unfold lst
  rw [List.take_succ_eq_append_getElem h, List.foldl_append]
  rfl
theorem lst_le {ts : List Lim} {l : Lim} (ht : ts.all termL = true) : ∀ k, k ≤ ts.length → -1 ≤ lst ts l k ∧ lst ts l k ≤ 1000000
  | 0, _ => by unfold lst; simp
  | k + 1, h => by
    rw [lst_succ (by omega)]
    split
    · have := List.all_eq_true.1 ht _ (List.getElem_mem (by omega : k < ts.length))
      simp only [termL, properB, isD, Bool.and_eq_true, decide_eq_true_eq] at this
      omega
    · exact lst_le ht k (by omega)
end Go.Top
namespace Go.Proofs
open Go Go.Pd Go.Top
attribute [local irreducible] OpsL W RetQ OpsQ OpsC
theorem dueL_le {l : Lim} {e : Nat} (h : dueL l = some e) : e ≤ 1000000 := by
  unfold dueL at h
  split at h
  · split at h
    · cases h
    · exact (openL_ge _ _ _ _ (Nat.le_refl _) h).2
  · cases h
set_option maxHeartbeats 16000000 in
theorem runs_calls {m x : Mat} {g : Mig} {mv xv : MV} {gv : GV} {day : Int} {w : World} (hm : MatIn w m mv) (hx : MatIn w x xv) (hg : MigIn w g gv) (hr : runsAll day g.terms m.limits x.limits = true) (hd : 0 ≤ day ∧ day ≤ 1000000) (ht : g.terms.all termL = true) :
    Calls Tryz.prog 10 #[.agg (matL m mv).toArray, .agg (matL x xv).toArray, .agg (migL g gv).toArray, .int .i64 day] w (fun e w' => ∃ v, e = .returned v ∧ v = .bool true ∧ Ext w w') := by
  obtain ⟨hlen, hrun⟩ := runsAll_at hr
  obtain ⟨ca, cc, ma, mc, ra, rc, la, lc, rfl⟩ := mv_shape hm
  obtain ⟨da, dc, na, nc, pa, pc, ka, kc, rfl⟩ := mv_shape hx
  obtain ⟨sa, sc, ga, gc, ta, tc, rfl⟩ := gv_shape hg
  obtain ⟨-, -, -, ⟨lp, hlp, xt, xli⟩, xtl⟩ := hm
  obtain ⟨-, -, -, ⟨lq, hlq, yt, yli⟩, ytl⟩ := hx
  obtain ⟨-, -, ⟨lt, hlt', gt, gli⟩, gtl⟩ := hg
  simp only at xt yt gt
  have hlpl : lp.length = m.limits.length := by rw [← hlp, List.length_map]
  have hlql : lq.length = x.limits.length := by rw [← hlq, List.length_map]
  have hltl : lt.length = g.terms.length := by rw [← hlt', List.length_map]
  obtain ⟨la', lc', he3, hpp⟩ := sl_each limL_len (by decide) xt
  obtain ⟨rfl, -, -⟩ := Value.slice.inj he3
  obtain ⟨ka', kc', he4, hqp⟩ := sl_each limL_len (by decide) yt
  obtain ⟨rfl, -, -⟩ := Value.slice.inj he4
  obtain ⟨ta', tc', he5, htp⟩ := sl_each limL_len (by decide) gt
  obtain ⟨rfl, -, -⟩ := Value.slice.inj he5
  refine calls_of Tryz.func10 rfl Tryz.ntmps10 rfl ?_
  repeat' (first | refine a_mov ?_ | refine a_asg ?_ | refine a_binN ?_ | refine a_notb ?_ | refine a_fa ?_ | refine a_ext ?_ | refine a_lenv ?_ | refine a_pick_t ?_ | refine a_pick_f ?_ | refine a_not ?_ | (refine o_nil (hK _ _ ?_); clear hK K) | refine wk_reg ?_ | refine wk_seq fun K hK => ?_ | (refine wk_skip (hK _ _ ?_); clear hK K) | refine wk_block ?_ | refine wk_cond_t rfl ?_ | refine wk_cond_f rfl ?_ | (refine wk_exit ?_; (repeat (refine blockK_other rfl ?_)); refine blockK_same ?_; try ((repeat ((fail_if_success (refine hK _ _ ?_)); clear hK K)); refine hK _ _ ?_; clear hK K)) | (refine a_bin ?_ ?_ <;> intro _ <;> try (exfalso; omega)) | fail)
  refine o_box (LH.start w (fun _ => False)) (matL m ⟨.slice ca m.cas.length cc, .slice ma m.moved.length mc, .slice ra m.rights.length rc, .slice la m.limits.length lc⟩) (by rfl) rfl rfl ?_
  intro b4 w01 hb4 hl
  refine o_box hl (matL x ⟨.slice da x.cas.length dc, .slice na x.moved.length nc, .slice pa x.rights.length pc, .slice ka x.limits.length kc⟩) (by rfl) rfl rfl ?_
  clear hl
  intro b5 w02 hb5 hl
  refine o_box hl (migL g ⟨.slice sa g.stages.length sc, .slice ga g.rights.length gc, .slice ta g.terms.length tc⟩) (by rfl) rfl rfl ?_
  clear hl
  intro b6 w1 hb6 hl
  have e1 : Ext w w1 := hl.done
  have r4 : Row w1 b4 0 [str m.id, .int .i64 m.opened, .slice ca m.cas.length cc, str m.proc, .int .i64 m.stage, .slice ma m.moved.length mc, .slice ra m.rights.length rc, .slice la m.limits.length lc] := hl.rowL (vs := matL m ⟨.slice ca m.cas.length cc, .slice ma m.moved.length mc, .slice ra m.rights.length rc, .slice la m.limits.length lc⟩) 2 0 8 rfl
  have r5 : Row w1 b5 0 [str x.id, .int .i64 x.opened, .slice da x.cas.length dc, str x.proc, .int .i64 x.stage, .slice na x.moved.length nc, .slice pa x.rights.length pc, .slice ka x.limits.length kc] := hl.rowL (vs := matL x ⟨.slice da x.cas.length dc, .slice na x.moved.length nc, .slice pa x.rights.length pc, .slice ka x.limits.length kc⟩) 1 0 8 rfl
  have r6 : Row w1 b6 0 [str g.src, str g.dst, .slice sa g.stages.length sc, .slice ga g.rights.length gc, .slice ta g.terms.length tc] := hl.rowL (vs := migL g ⟨.slice sa g.stages.length sc, .slice ga g.rights.length gc, .slice ta g.terms.length tc⟩) 0 0 5 rfl
  clear hl
  repeat' (first | refine a_row r4 ?_ | refine a_row r5 ?_ | refine a_mov ?_ | refine a_asg ?_ | refine a_binN ?_ | refine a_notb ?_ | refine a_fa ?_ | refine a_ext ?_ | refine a_lenv ?_ | refine a_pick_t ?_ | refine a_pick_f ?_ | refine a_not ?_ | (refine o_nil (hK _ _ ?_); clear hK K) | refine wk_reg ?_ | refine wk_seq fun K hK => ?_ | (refine wk_skip (hK _ _ ?_); clear hK K) | refine wk_block ?_ | refine wk_cond_t rfl ?_ | refine wk_cond_f rfl ?_ | (refine wk_exit ?_; (repeat (refine blockK_other rfl ?_)); refine blockK_same ?_; try ((repeat ((fail_if_success (refine hK _ _ ?_)); clear hK K)); refine hK _ _ ?_; clear hK K)) | (refine a_bin ?_ ?_ <;> intro _ <;> try (exfalso; omega)) | fail)
  refine wk_loopH [] rfl (fun i : Nat => [(3, .int .i64 day), (4, .pointer (some ⟨b4, 0, none⟩)), (5, .pointer (some ⟨b5, 0, none⟩)), (6, .pointer (some ⟨b6, 0, none⟩)), (9, .int .i64 (i : Int))]) (fun i w' => i ≤ m.limits.length ∧ Ext w1 w') (fun i => m.limits.length - i) 0 ⟨rfl, rfl, rfl, rfl, rfl, trivial⟩ ⟨Nat.zero_le _, .refl _ _⟩ ?_
  rintro i t w2 ⟨hi, e2⟩
  replace r4 := r4.ext e2
  replace r5 := r5.ext e2
  replace r6 := r6.ext e2
  by_cases hlt : i < m.limits.length
  rotate_left
  · obtain rfl : i = m.limits.length := by omega
    repeat' (first | refine a_row r4 ?_ | refine a_mov ?_ | refine a_asg ?_ | refine a_binN ?_ | refine a_notb ?_ | refine a_fa ?_ | refine a_ext ?_ | refine a_lenv ?_ | refine a_pick_t ?_ | refine a_pick_f ?_ | refine a_not ?_ | (refine o_nil (hK _ _ ?_); clear hK K) | refine wk_reg ?_ | refine wk_seq fun K hK => ?_ | (refine wk_skip (hK _ _ ?_); clear hK K) | refine wk_block ?_ | refine wk_cond_t rfl ?_ | refine wk_cond_f rfl ?_ | (refine wk_exit ?_; (repeat (refine blockK_other rfl ?_)); refine blockK_same ?_; try ((repeat ((fail_if_success (refine hK _ _ ?_)); clear hK K)); refine hK _ _ ?_; clear hK K)) | (refine a_bin ?_ ?_ <;> intro _ <;> try (exfalso; omega)) | fail)
    refine wk_ret (retQ_tmp1 Tryz.results10 (by decide) rfl (by conv => lhs; whnf) ?_)
    exact ⟨rfl, e1.trans e2⟩
  have hl1 : i < lp.length := by omega
  have hl2 : i < lq.length := by omega
  have hrb := hrun i hlt (by omega)
  have hpe : m.limits[i] = lp[i].1 := by simp only [← hlp, List.getElem_map]
  have hqe : x.limits[i]'(by omega) = lq[i].1 := by simp only [← hlq, List.getElem_map]
  rw [hpe, hqe] at hrb
  obtain ⟨b, o, hpa, hrr⟩ := hpp i hl1
  obtain ⟨b', o', hpa', hrr'⟩ := hqp i hl2
  have hrr := hrr w2 (e1.trans e2)
  have hi1 := (xli _ (List.getElem_mem hl1)).ext (e1.trans e2)
  have hi2 := (yli _ (List.getElem_mem hl2)).ext (e1.trans e2)
  clear hpe hqe
  generalize lp[i] = p at *
  generalize lq[i] = q at *
  repeat' (first | refine a_row r4 ?_ | refine a_mov ?_ | refine a_asg ?_ | refine a_binN ?_ | refine a_notb ?_ | refine a_fa ?_ | refine a_ext ?_ | refine a_lenv ?_ | refine a_pick_t ?_ | refine a_pick_f ?_ | refine a_not ?_ | (refine o_nil (hK _ _ ?_); clear hK K) | refine wk_reg ?_ | refine wk_seq fun K hK => ?_ | (refine wk_skip (hK _ _ ?_); clear hK K) | refine wk_block ?_ | refine wk_cond_t rfl ?_ | refine wk_cond_f rfl ?_ | (refine wk_exit ?_; (repeat (refine blockK_other rfl ?_)); refine blockK_same ?_; try ((repeat ((fail_if_success (refine hK _ _ ?_)); clear hK K)); refine hK _ _ ?_; clear hK K)) | (refine a_bin ?_ ?_ <;> intro _ <;> try (exfalso; omega)) | refine a_idx (c := 5) i hpa ?_ | refine a_all hrr ?_ | fail)
  refine o_alloc (LH.start w2 (fun _ => False)) limZ (by kernel_rfl) rfl ?_
  intro b10 w3 hb10 hl
  refine o_store hl 0 (limL p) rfl rfl rfl (by rfl) rfl (by rw [limL_len]; decide) (lim_one hi1) ?_
  clear hl
  intro w4 hl
  have hl : LH w2 (fun _ => False) w4 [(b10, .cells (limL p).toArray 56 (0, 0))] := hl
  have r54 := r5.ext hl.done
  have hrr4 := hrr' w4 ((e1.trans e2).trans hl.done)
  repeat' (first | refine a_row r54 ?_ | refine a_mov ?_ | refine a_asg ?_ | refine a_binN ?_ | refine a_notb ?_ | refine a_fa ?_ | refine a_ext ?_ | refine a_lenv ?_ | refine a_pick_t ?_ | refine a_pick_f ?_ | refine a_not ?_ | (refine o_nil (hK _ _ ?_); clear hK K) | refine wk_reg ?_ | refine wk_seq fun K hK => ?_ | (refine wk_skip (hK _ _ ?_); clear hK K) | refine wk_block ?_ | refine wk_cond_t rfl ?_ | refine wk_cond_f rfl ?_ | (refine wk_exit ?_; (repeat (refine blockK_other rfl ?_)); refine blockK_same ?_; try ((repeat ((fail_if_success (refine hK _ _ ?_)); clear hK K)); refine hK _ _ ?_; clear hK K)) | (refine a_bin ?_ ?_ <;> intro _ <;> try (exfalso; omega)) | refine a_idx (c := 5) i hpa' ?_ | refine a_all hrr4 ?_ | fail)
  refine o_alloc hl limZ (by kernel_rfl) rfl ?_
  clear hl
  intro b11 w5 hb11 hl
  refine o_store hl 0 (limL q) rfl rfl rfl (by rfl) rfl (by rw [limL_len]; decide) (lim_one hi2) ?_
  clear hl
  intro w6 hl
  have hl : LH w2 (fun _ => False) w6 [(b11, .cells (limL q).toArray 56 (0, 0)), (b10, .cells (limL p).toArray 56 (0, 0))] := hl
  have e6 : Ext w2 w6 := hl.done
  have r11 : Row w6 b11 0 [str q.1.id, .int .i64 q.1.n, .int .i64 q.1.u, .int .i64 q.1.f, q.2] := hl.rowL (vs := limL q) 0 0 5 rfl
  have r10 : Row w6 b10 0 [str p.1.id, .int .i64 p.1.n, .int .i64 p.1.u, .int .i64 p.1.f, p.2] := hl.rowL (vs := limL p) 1 0 5 rfl
  clear hl
  repeat' (first | refine a_mov ?_ | refine a_asg ?_ | refine a_binN ?_ | refine a_notb ?_ | refine a_fa ?_ | refine a_ext ?_ | refine a_lenv ?_ | refine a_pick_t ?_ | refine a_pick_f ?_ | refine a_not ?_ | (refine o_nil (hK _ _ ?_); clear hK K) | refine wk_reg ?_ | refine wk_seq fun K hK => ?_ | (refine wk_skip (hK _ _ ?_); clear hK K) | refine wk_block ?_ | refine wk_cond_t rfl ?_ | refine wk_cond_f rfl ?_ | (refine wk_exit ?_; (repeat (refine blockK_other rfl ?_)); refine blockK_same ?_; try ((repeat ((fail_if_success (refine hK _ _ ?_)); clear hK K)); refine hK _ _ ?_; clear hK K)) | (refine a_bin ?_ ?_ <;> intro _ <;> try (exfalso; omega)) | fail)
  refine wk_loopH [] rfl (fun k : Nat => [(3, .int .i64 day), (4, .pointer (some ⟨b4, 0, none⟩)), (5, .pointer (some ⟨b5, 0, none⟩)), (6, .pointer (some ⟨b6, 0, none⟩)), (9, .int .i64 (i : Int)), (10, .pointer (some ⟨b10, 0, none⟩)), (11, .pointer (some ⟨b11, 0, none⟩)), (12, .int .i64 (lst g.terms p.1 k)), (13, .int .i64 (k : Int))]) (fun k w' => k ≤ g.terms.length ∧ Ext w6 w') (fun k => g.terms.length - k) 0 ⟨rfl, rfl, rfl, rfl, rfl, rfl, rfl, rfl, rfl, trivial⟩ ⟨Nat.zero_le _, .refl _ _⟩ ?_
  rintro k t2 w7 ⟨hk, e7⟩
  have r67 := (r6.ext e6).ext e7
  replace r10 := r10.ext e7
  replace r11 := r11.ext e7
  by_cases hkl : k < g.terms.length
  · have hkl2 : k < lt.length := by omega
    obtain ⟨bt, ot, hpt, hrt⟩ := htp k hkl2
    have hrt := hrt w7 (((e1.trans e2).trans e6).trans e7)
    have hls := lst_succ (ts := g.terms) (l := p.1) hkl
    have hte : g.terms[k] = lt[k].1 := by simp only [← hlt', List.getElem_map]
    rw [hte] at hls
    generalize lt[k] = tt at *
    have hrt : Row w7 bt (ot + k * 5) [str tt.1.id, .int .i64 tt.1.n, .int .i64 tt.1.u, .int .i64 tt.1.f, tt.2] := hrt
    repeat' (first | refine a_row r67 ?_ | refine a_mov ?_ | refine a_asg ?_ | refine a_binN ?_ | refine a_notb ?_ | refine a_fa ?_ | refine a_ext ?_ | refine a_lenv ?_ | refine a_pick_t ?_ | refine a_pick_f ?_ | refine a_not ?_ | (refine o_nil (hK _ _ ?_); clear hK K) | refine wk_reg ?_ | refine wk_seq fun K hK => ?_ | (refine wk_skip (hK _ _ ?_); clear hK K) | refine wk_block ?_ | refine wk_cond_t rfl ?_ | refine wk_cond_f rfl ?_ | (refine wk_exit ?_; (repeat (refine blockK_other rfl ?_)); refine blockK_same ?_; try ((repeat ((fail_if_success (refine hK _ _ ?_)); clear hK K)); refine hK _ _ ?_; clear hK K)) | (refine a_bin ?_ ?_ <;> intro _ <;> try (exfalso; omega)) | fail)
    refine wk_quiet (List.range 9) ?_
    by_cases hid : tt.1.id = p.1.id
    · rw [if_pos hid] at hls
      repeat' (first | refine q_row (fun w_ hw_ => r67.ext hw_) ?_ | refine q_row (fun w_ hw_ => r10.ext hw_) ?_ | refine q_idx (c := 5) k hpt ?_ | refine q_row (fun w_ hw_ => hrt.ext hw_) ?_ | refine q_eqsT (a := tt.1.id) (b := p.1.id) rfl rfl rfl rfl (fun _ => ?_) (fun h_ => absurd hid h_) | refine q_mov ?_ | refine q_fa ?_ | refine q_nil ?_ | fail)
      intro w8 e8
      refine hK _ _ ?_
      clear hK K
      replace r67 := r67.ext e8
      replace hrt := hrt.ext e8
      repeat' (first | refine a_row r67 ?_ | refine a_idx (c := 5) k hpt ?_ | refine a_row hrt ?_ | refine a_mov ?_ | refine a_asg ?_ | refine a_binN ?_ | refine a_notb ?_ | refine a_fa ?_ | refine a_ext ?_ | refine a_lenv ?_ | refine a_pick_t ?_ | refine a_pick_f ?_ | refine a_not ?_ | (refine o_nil (hK _ _ ?_); clear hK K) | refine wk_reg ?_ | refine wk_seq fun K hK => ?_ | (refine wk_skip (hK _ _ ?_); clear hK K) | refine wk_block ?_ | refine wk_cond_t rfl ?_ | refine wk_cond_f rfl ?_ | (refine wk_exit ?_; (repeat (refine blockK_other rfl ?_)); refine blockK_same ?_; try ((repeat ((fail_if_success (refine hK _ _ ?_)); clear hK K)); refine hK _ _ ?_; clear hK K)) | (refine a_bin ?_ ?_ <;> intro _ <;> try (exfalso; omega)) | fail)
      exact o_nil ⟨k + 1, ⟨rfl, rfl, rfl, rfl, rfl, rfl, rfl, congrArg (Value.int .i64) hls.symm, rfl, trivial⟩, rfl, ⟨hkl, e7.trans e8⟩, by omega⟩
    · rw [if_neg hid] at hls
      repeat' (first | refine q_row (fun w_ hw_ => r67.ext hw_) ?_ | refine q_row (fun w_ hw_ => r10.ext hw_) ?_ | refine q_idx (c := 5) k hpt ?_ | refine q_row (fun w_ hw_ => hrt.ext hw_) ?_ | refine q_eqsT (a := tt.1.id) (b := p.1.id) rfl rfl rfl rfl (fun h_ => absurd h_ hid) (fun _ => ?_) | refine q_mov ?_ | refine q_fa ?_ | refine q_nil ?_ | fail)
      intro w8 e8
      refine hK _ _ ?_
      clear hK K
      repeat' (first | refine a_mov ?_ | refine a_asg ?_ | refine a_binN ?_ | refine a_notb ?_ | refine a_fa ?_ | refine a_ext ?_ | refine a_lenv ?_ | refine a_pick_t ?_ | refine a_pick_f ?_ | refine a_not ?_ | (refine o_nil (hK _ _ ?_); clear hK K) | refine wk_reg ?_ | refine wk_seq fun K hK => ?_ | (refine wk_skip (hK _ _ ?_); clear hK K) | refine wk_block ?_ | refine wk_cond_t rfl ?_ | refine wk_cond_f rfl ?_ | (refine wk_exit ?_; (repeat (refine blockK_other rfl ?_)); refine blockK_same ?_; try ((repeat ((fail_if_success (refine hK _ _ ?_)); clear hK K)); refine hK _ _ ?_; clear hK K)) | (refine a_bin ?_ ?_ <;> intro _ <;> try (exfalso; omega)) | fail)
      exact o_nil ⟨k + 1, ⟨rfl, rfl, rfl, rfl, rfl, rfl, rfl, congrArg (Value.int .i64) hls.symm, rfl, trivial⟩, rfl, ⟨hkl, e7.trans e8⟩, by omega⟩
  obtain rfl : k = g.terms.length := by omega
  have hlb := lst_le (l := p.1) ht g.terms.length (Nat.le_refl _)
  rw [lst_end] at hlb ⊢
  unfold runsB at hrb
  generalize leastL g.terms p.1 = ls at *
  repeat' (first | refine a_row r67 ?_ | refine a_mov ?_ | refine a_asg ?_ | refine a_binN ?_ | refine a_notb ?_ | refine a_fa ?_ | refine a_ext ?_ | refine a_lenv ?_ | refine a_pick_t ?_ | refine a_pick_f ?_ | refine a_not ?_ | (refine o_nil (hK _ _ ?_); clear hK K) | refine wk_reg ?_ | refine wk_seq fun K hK => ?_ | (refine wk_skip (hK _ _ ?_); clear hK K) | refine wk_block ?_ | refine wk_cond_t rfl ?_ | refine wk_cond_f rfl ?_ | (refine wk_exit ?_; (repeat (refine blockK_other rfl ?_)); refine blockK_same ?_; try ((repeat ((fail_if_success (refine hK _ _ ?_)); clear hK K)); refine hK _ _ ?_; clear hK K)) | (refine a_bin ?_ ?_ <;> intro _ <;> try (exfalso; omega)) | fail)
  refine a_all (vs := limL p) r10 ?_
  refine a_fn (due_calls (hi1.ext (e6.trans e7))) ?_
  rintro v w8 ⟨ho, e8⟩
  have key : ∃ d0 e0 : Int, v = .tuple #[.int .i64 d0, .int .i64 e0] ∧ ((∃ e ∈ dueL p.1, (e : Int) < day) ↔ (e0 = 0 ∧ d0 < day)) := by
    cases hdu : dueL p.1 with
    | none =>
      rw [hdu] at ho
      obtain ⟨e, he, rfl⟩ := ho
      exact ⟨0, e, rfl, ⟨(fun ⟨e, h, _⟩ => by cases h), fun h => absurd h.1 he⟩⟩
    | some e =>
      rw [hdu] at ho
      refine ⟨e, 0, ho, ⟨fun ⟨e', h, h'⟩ => ?_, fun h => ⟨e, rfl, h.2⟩⟩⟩
      cases h
      exact ⟨rfl, h'⟩
  obtain ⟨d0, e0, rfl, hiff⟩ := key
  clear ho
  replace r10 := r10.ext e8
  replace r11 := r11.ext e8
  have e18 : Ext w1 w8 := ((e2.trans e6).trans e7).trans e8
  have e08 : Ext w2 w8 := (e6.trans e7).trans e8
  repeat' (first | refine a_mov ?_ | refine a_asg ?_ | refine a_binN ?_ | refine a_notb ?_ | refine a_fa ?_ | refine a_ext ?_ | refine a_lenv ?_ | refine a_pick_t ?_ | refine a_pick_f ?_ | refine a_not ?_ | (refine o_nil (hK _ _ ?_); clear hK K) | refine wk_reg ?_ | refine wk_seq fun K hK => ?_ | (refine wk_skip (hK _ _ ?_); clear hK K) | refine wk_block ?_ | refine wk_cond_t rfl ?_ | refine wk_cond_f rfl ?_ | (refine wk_exit ?_; (repeat (refine blockK_other rfl ?_)); refine blockK_same ?_; try ((repeat ((fail_if_success (refine hK _ _ ?_)); clear hK K)); refine hK _ _ ?_; clear hK K)) | (refine a_bin ?_ ?_ <;> intro _ <;> try (exfalso; omega)) | fail)
  · skip
    have hc : ls < 0 ∨ ∃ e ∈ dueL p.1, (e : Int) < day := by
      by_cases hh : ls < 0
      · exact .inl hh
      · exact .inr (hiff.2 (by omega))
    rw [if_pos hc, decide_eq_true_eq] at hrb
    obtain ⟨l1, s1⟩ := p
    obtain ⟨l2, s2⟩ := q
    simp only at hrb
    subst hrb
    refine a_all (vs := limL (l1, s1)) r10 ?_
    refine a_all (vs := limL (l1, s2)) r11 ?_
    refine a_fn (same30_calls (hi1.ext e08) (hi2.ext e08)) ?_
    rintro v w9 ⟨rfl, e9⟩
    repeat' (first | refine a_mov ?_ | refine a_asg ?_ | refine a_binN ?_ | refine a_notb ?_ | refine a_fa ?_ | refine a_ext ?_ | refine a_lenv ?_ | refine a_pick_t ?_ | refine a_pick_f ?_ | refine a_not ?_ | (refine o_nil (hK _ _ ?_); clear hK K) | refine wk_reg ?_ | refine wk_seq fun K hK => ?_ | (refine wk_skip (hK _ _ ?_); clear hK K) | refine wk_block ?_ | refine wk_cond_t rfl ?_ | refine wk_cond_f rfl ?_ | (refine wk_exit ?_; (repeat (refine blockK_other rfl ?_)); refine blockK_same ?_; try ((repeat ((fail_if_success (refine hK _ _ ?_)); clear hK K)); refine hK _ _ ?_; clear hK K)) | (refine a_bin ?_ ?_ <;> intro _ <;> try (exfalso; omega)) | fail)
    exact o_nil ⟨i + 1, ⟨rfl, rfl, rfl, rfl, rfl, trivial⟩, rfl, ⟨hlt, e18.trans e9⟩, by omega⟩
  · skip
    have hc : ls < 0 ∨ ∃ e ∈ dueL p.1, (e : Int) < day := by
      by_cases hh : ls < 0
      · exact .inl hh
      · exact .inr (hiff.2 (by omega))
    rw [if_pos hc, decide_eq_true_eq] at hrb
    obtain ⟨l1, s1⟩ := p
    obtain ⟨l2, s2⟩ := q
    simp only at hrb
    subst hrb
    refine a_all (vs := limL (l1, s1)) r10 ?_
    refine a_all (vs := limL (l1, s2)) r11 ?_
    refine a_fn (same30_calls (hi1.ext e08) (hi2.ext e08)) ?_
    rintro v w9 ⟨rfl, e9⟩
    repeat' (first | refine a_mov ?_ | refine a_asg ?_ | refine a_binN ?_ | refine a_notb ?_ | refine a_fa ?_ | refine a_ext ?_ | refine a_lenv ?_ | refine a_pick_t ?_ | refine a_pick_f ?_ | refine a_not ?_ | (refine o_nil (hK _ _ ?_); clear hK K) | refine wk_reg ?_ | refine wk_seq fun K hK => ?_ | (refine wk_skip (hK _ _ ?_); clear hK K) | refine wk_block ?_ | refine wk_cond_t rfl ?_ | refine wk_cond_f rfl ?_ | (refine wk_exit ?_; (repeat (refine blockK_other rfl ?_)); refine blockK_same ?_; try ((repeat ((fail_if_success (refine hK _ _ ?_)); clear hK K)); refine hK _ _ ?_; clear hK K)) | (refine a_bin ?_ ?_ <;> intro _ <;> try (exfalso; omega)) | fail)
    exact o_nil ⟨i + 1, ⟨rfl, rfl, rfl, rfl, rfl, trivial⟩, rfl, ⟨hlt, e18.trans e9⟩, by omega⟩
  · skip
    have hc : ¬ (ls < 0 ∨ ∃ e ∈ dueL p.1, (e : Int) < day) := by
      rintro (hh | hh)
      · omega
      · have := hiff.1 hh
        omega
    rw [if_neg hc, Bool.and_eq_true, decide_eq_true_eq] at hrb
    obtain ⟨hid2, hrb⟩ := hrb
    cases hdq : dueL q.1 with
    | none => rw [hdq] at hrb; cases hrb
    | some e2' =>
      rw [hdq] at hrb
      simp only [decide_eq_true_eq] at hrb
      refine a_all (vs := limL q) r11 ?_
      refine a_fn (due_calls (hi2.ext e08)) ?_
      rintro v w9 ⟨ho2, e9⟩
      rw [hdq] at ho2
      have ho2 : v = .tuple #[.int .i64 (e2' : Int), .int .i64 0] := ho2
      subst ho2
      replace r10 := r10.ext e9
      replace r11 := r11.ext e9
      have hle := dueL_le hdq
      repeat' (first | refine a_row r11 ?_ | refine a_row r10 ?_ | refine o_nesT (a := q.1.id) (b := p.1.id) rfl rfl rfl (fun h_ => absurd hid2 h_) (fun _ => ?_) | refine a_mov ?_ | refine a_asg ?_ | refine a_binN ?_ | refine a_notb ?_ | refine a_fa ?_ | refine a_ext ?_ | refine a_lenv ?_ | refine a_pick_t ?_ | refine a_pick_f ?_ | refine a_not ?_ | (refine o_nil (hK _ _ ?_); clear hK K) | refine wk_reg ?_ | refine wk_seq fun K hK => ?_ | (refine wk_skip (hK _ _ ?_); clear hK K) | refine wk_block ?_ | refine wk_cond_t rfl ?_ | refine wk_cond_f rfl ?_ | (refine wk_exit ?_; (repeat (refine blockK_other rfl ?_)); refine blockK_same ?_; try ((repeat ((fail_if_success (refine hK _ _ ?_)); clear hK K)); refine hK _ _ ?_; clear hK K)) | (refine a_bin ?_ ?_ <;> intro _ <;> try (exfalso; omega)) | fail)
      exact o_nil ⟨i + 1, ⟨rfl, rfl, rfl, rfl, rfl, trivial⟩, rfl, ⟨hlt, e18.trans e9⟩, by omega⟩
  · skip
    have hc : ¬ (ls < 0 ∨ ∃ e ∈ dueL p.1, (e : Int) < day) := by
      rintro (hh | hh)
      · omega
      · have := hiff.1 hh
        omega
    rw [if_neg hc, Bool.and_eq_true, decide_eq_true_eq] at hrb
    obtain ⟨hid2, hrb⟩ := hrb
    cases hdq : dueL q.1 with
    | none => rw [hdq] at hrb; cases hrb
    | some e2' =>
      rw [hdq] at hrb
      simp only [decide_eq_true_eq] at hrb
      refine a_all (vs := limL q) r11 ?_
      refine a_fn (due_calls (hi2.ext e08)) ?_
      rintro v w9 ⟨ho2, e9⟩
      rw [hdq] at ho2
      have ho2 : v = .tuple #[.int .i64 (e2' : Int), .int .i64 0] := ho2
      subst ho2
      replace r10 := r10.ext e9
      replace r11 := r11.ext e9
      have hle := dueL_le hdq
      repeat' (first | refine a_row r11 ?_ | refine a_row r10 ?_ | refine o_nesT (a := q.1.id) (b := p.1.id) rfl rfl rfl (fun h_ => absurd hid2 h_) (fun _ => ?_) | refine a_mov ?_ | refine a_asg ?_ | refine a_binN ?_ | refine a_notb ?_ | refine a_fa ?_ | refine a_ext ?_ | refine a_lenv ?_ | refine a_pick_t ?_ | refine a_pick_f ?_ | refine a_not ?_ | (refine o_nil (hK _ _ ?_); clear hK K) | refine wk_reg ?_ | refine wk_seq fun K hK => ?_ | (refine wk_skip (hK _ _ ?_); clear hK K) | refine wk_block ?_ | refine wk_cond_t rfl ?_ | refine wk_cond_f rfl ?_ | (refine wk_exit ?_; (repeat (refine blockK_other rfl ?_)); refine blockK_same ?_; try ((repeat ((fail_if_success (refine hK _ _ ?_)); clear hK K)); refine hK _ _ ?_; clear hK K)) | (refine a_bin ?_ ?_ <;> intro _ <;> try (exfalso; omega)) | fail)
      exact o_nil ⟨i + 1, ⟨rfl, rfl, rfl, rfl, rfl, trivial⟩, rfl, ⟨hlt, e18.trans e9⟩, by omega⟩
end Go.Proofs
