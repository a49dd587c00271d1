/-
  The references: equal limits, equal matters; what rights a matter has.
-/
import Derived.Test.YtpmjolbnmoejdaaGreatDoorQToRb
set_option linter.unusedVariables false
set_option linter.unusedSimpArgs false
set_option linter.unnecessarySimpa false
set_option maxRecDepth 10000
namespace Go.Proofs
open Go Go.Pd Go.Top
attribute [local irreducible] OpsL W RetQ OpsQ OpsC
set_option maxHeartbeats 4000000 in
theorem same30_calls {l : Lim} {s1 s2 : Value} {w : World} (h1 : LimIn w (l, s1)) (h2 : LimIn w (l, s2)) : Calls Tryz.prog 23 #[.agg (limL (l, s1)).toArray, .agg (limL (l, s2)).toArray] w (fun e w' => ∃ v, e = .returned v ∧ v = .bool true ∧ Ext w w') := by
  obtain ⟨ha, hal, -⟩ := h1
  obtain ⟨hb, hbl, -⟩ := h2
  simp only at ha hb hal
  obtain ⟨aa, ac, rfl, hap⟩ := sl_each stopL_len (by decide) ha
  obtain ⟨ba, bc, rfl, hbp⟩ := sl_each stopL_len (by decide) hb
  refine calls_of Tryz.func23 rfl Tryz.ntmps23 rfl ?_
  repeat' (first | refine a_mov ?_ | refine a_asg ?_ | refine a_binN ?_ | refine a_fa ?_ | refine a_lenv ?_ | refine a_pick_f ?_ | (refine o_nil (hK _ _ ?_); clear hK K) | refine wk_reg ?_ | refine wk_seq fun K hK => ?_ | (refine wk_skip (hK _ _ ?_); clear hK K) | refine wk_block ?_ | refine wk_cond_t rfl ?_ | refine wk_cond_f rfl ?_ | (refine wk_exit ?_; (repeat (refine blockK_other rfl ?_)); refine blockK_same ?_; try ((repeat ((fail_if_success (refine hK _ _ ?_)); clear hK K)); refine hK _ _ ?_; clear hK K)) | (refine a_bin ?_ ?_ <;> intro _ <;> try (exfalso; omega)) | fail)
  refine o_box (LH.start w (fun _ => False)) (limL (l, .slice aa l.st.length ac)) (by rfl) rfl rfl ?_
  intro b2 w0 hb2 hl
  refine o_box hl (limL (l, .slice ba l.st.length bc)) (by rfl) rfl rfl ?_
  clear hl
  intro b3 w1 hb3 hl
  have e1 : Ext w w1 := hl.done
  have r2 : Row w1 b2 0 [str l.id, .int .i64 l.n, .int .i64 l.u, .int .i64 l.f, .slice aa l.st.length ac] := hl.rowL (vs := limL (l, .slice aa l.st.length ac)) 1 0 5 rfl
  have r3 : Row w1 b3 0 [str l.id, .int .i64 l.n, .int .i64 l.u, .int .i64 l.f, .slice ba l.st.length bc] := hl.rowL (vs := limL (l, .slice ba l.st.length bc)) 0 0 5 rfl
  have t2 : Row w1 b2 1 [.int .i64 l.n, .int .i64 l.u] := hl.rowL (vs := limL (l, .slice aa l.st.length ac)) 1 1 2 rfl
  have t3 : Row w1 b3 1 [.int .i64 l.n, .int .i64 l.u] := hl.rowL (vs := limL (l, .slice ba l.st.length bc)) 0 1 2 rfl
  clear hl
  repeat' (first | refine a_row r2 ?_ | refine a_row r3 ?_ | refine a_all t2 ?_ | refine a_all t3 ?_ | refine o_nesT (a := l.id) (b := l.id) rfl rfl rfl (fun h_ => absurd rfl h_) (fun _ => ?_) | refine o_neS rfl rfl rfl (by kernel_rfl) rfl (by kernel_rfl) (ScF.cast (.cons (by decide) rfl rfl rfl (by first | exact .int rfl | exact .str rfl | exact .bool rfl) (.cons (by decide) rfl rfl rfl (by first | exact .int rfl | exact .str rfl | exact .bool rfl) .nil)) (by simp)) ?_ | refine a_mov ?_ | refine a_asg ?_ | refine a_binN ?_ | refine a_fa ?_ | refine a_lenv ?_ | refine a_pick_f ?_ | (refine o_nil (hK _ _ ?_); clear hK K) | refine wk_reg ?_ | refine wk_seq fun K hK => ?_ | (refine wk_skip (hK _ _ ?_); clear hK K) | refine wk_block ?_ | refine wk_cond_t rfl ?_ | refine wk_cond_f rfl ?_ | (refine wk_exit ?_; (repeat (refine blockK_other rfl ?_)); refine blockK_same ?_; try ((repeat ((fail_if_success (refine hK _ _ ?_)); clear hK K)); refine hK _ _ ?_; clear hK K)) | (refine a_bin ?_ ?_ <;> intro _ <;> try (exfalso; omega)) | fail)
  refine wk_loopH [] rfl (fun i : Nat => [(2, .pointer (some ⟨b2, 0, none⟩)), (3, .pointer (some ⟨b3, 0, none⟩)), (5, .int .i64 (i : Int))]) (fun i w' => i ≤ l.st.length ∧ Ext w1 w') (fun i => l.st.length - i) 0 ⟨rfl, rfl, rfl, trivial⟩ ⟨Nat.zero_le _, .refl _ _⟩ ?_
  rintro i t w2 ⟨hi, e2⟩
  replace r2 := r2.ext e2
  replace r3 := r3.ext e2
  by_cases hlt : i < l.st.length
  · obtain ⟨b, o, hpp, hrr⟩ := hap i hlt
    obtain ⟨b', o', hpp', hrr'⟩ := hbp i hlt
    have hrr := hrr w2 (e1.trans e2)
    have hrr' := hrr' w2 (e1.trans e2)
    generalize l.st[i] = s at *
    repeat' (first | refine a_row r2 ?_ | refine a_mov ?_ | refine a_asg ?_ | refine a_binN ?_ | refine a_fa ?_ | refine a_lenv ?_ | refine a_pick_f ?_ | (refine o_nil (hK _ _ ?_); clear hK K) | refine wk_reg ?_ | refine wk_seq fun K hK => ?_ | (refine wk_skip (hK _ _ ?_); clear hK K) | refine wk_block ?_ | refine wk_cond_t rfl ?_ | refine wk_cond_f rfl ?_ | (refine wk_exit ?_; (repeat (refine blockK_other rfl ?_)); refine blockK_same ?_; try ((repeat ((fail_if_success (refine hK _ _ ?_)); clear hK K)); refine hK _ _ ?_; clear hK K)) | (refine a_bin ?_ ?_ <;> intro _ <;> try (exfalso; omega)) | fail)
    refine wk_quiet (List.range 11) ?_
    repeat' (first | refine q_row (fun w_ hw_ => r2.ext hw_) ?_ | refine q_row (fun w_ hw_ => r3.ext hw_) ?_ | refine q_idx (c := 2) i hpp ?_ | refine q_idx (c := 2) i hpp' ?_ | refine q_all (fun w_ hw_ => hrr.ext hw_) ?_ | refine q_all (fun w_ hw_ => hrr'.ext hw_) ?_ | refine q_pur rfl rfl rfl (fun _ => r_neS rfl rfl (by kernel_rfl) rfl (by kernel_rfl) (ScF.cast (.cons (by decide) rfl rfl rfl (by first | exact .int rfl | exact .str rfl | exact .bool rfl) (.cons (by decide) rfl rfl rfl (by first | exact .int rfl | exact .str rfl | exact .bool rfl) .nil)) (by simp))) ?_ | refine q_mov ?_ | refine q_fa ?_ | refine q_nil ?_ | fail)
    intro w3 e3
    refine hK _ _ ?_
    clear hK K
    repeat' (first | refine a_mov ?_ | refine a_asg ?_ | refine a_binN ?_ | refine a_fa ?_ | refine a_lenv ?_ | refine a_pick_f ?_ | (refine o_nil (hK _ _ ?_); clear hK K) | refine wk_reg ?_ | refine wk_seq fun K hK => ?_ | (refine wk_skip (hK _ _ ?_); clear hK K) | refine wk_block ?_ | refine wk_cond_t rfl ?_ | refine wk_cond_f rfl ?_ | (refine wk_exit ?_; (repeat (refine blockK_other rfl ?_)); refine blockK_same ?_; try ((repeat ((fail_if_success (refine hK _ _ ?_)); clear hK K)); refine hK _ _ ?_; clear hK K)) | (refine a_bin ?_ ?_ <;> intro _ <;> try (exfalso; omega)) | fail)
    exact o_nil ⟨i + 1, ⟨rfl, rfl, rfl, trivial⟩, rfl, ⟨hlt, e2.trans e3⟩, by omega⟩
  obtain rfl : i = l.st.length := by omega
  repeat' (first | refine a_row r2 ?_ | refine a_mov ?_ | refine a_asg ?_ | refine a_binN ?_ | refine a_fa ?_ | refine a_lenv ?_ | refine a_pick_f ?_ | (refine o_nil (hK _ _ ?_); clear hK K) | refine wk_reg ?_ | refine wk_seq fun K hK => ?_ | (refine wk_skip (hK _ _ ?_); clear hK K) | refine wk_block ?_ | refine wk_cond_t rfl ?_ | refine wk_cond_f rfl ?_ | (refine wk_exit ?_; (repeat (refine blockK_other rfl ?_)); refine blockK_same ?_; try ((repeat ((fail_if_success (refine hK _ _ ?_)); clear hK K)); refine hK _ _ ?_; clear hK K)) | (refine a_bin ?_ ?_ <;> intro _ <;> try (exfalso; omega)) | fail)
  refine wk_ret (retQ_tmp1 Tryz.results23 (by decide) rfl (by conv => lhs; whnf) ?_)
  exact ⟨rfl, e1.trans e2⟩
set_option maxHeartbeats 4000000 in
theorem ints_calls {l : List Int} {v1 v2 : Value} {w : World} (h1 : Sl w v1 1 (l.flatMap intL)) (h2 : Sl w v2 1 (l.flatMap intL)) (hn : l.length ≤ 140737488351232) : Calls Tryz.prog 30 #[v1, v2] w (fun e w' => ∃ v, e = .returned v ∧ v = .bool true ∧ Ext w w') := by
  obtain ⟨aa, ac, rfl, hap⟩ := sl_each intL_len (by decide) h1
  obtain ⟨ba, bc, rfl, hbp⟩ := sl_each intL_len (by decide) h2
  refine calls_of Tryz.func30 rfl Tryz.ntmps30 rfl ?_
  repeat' (first | refine a_mov ?_ | refine a_asg ?_ | refine a_binN ?_ | refine a_lenv ?_ | (refine o_nil (hK _ _ ?_); clear hK K) | refine wk_reg ?_ | refine wk_seq fun K hK => ?_ | (refine wk_skip (hK _ _ ?_); clear hK K) | refine wk_block ?_ | refine wk_cond_t rfl ?_ | refine wk_cond_f rfl ?_ | (refine wk_exit ?_; (repeat (refine blockK_other rfl ?_)); refine blockK_same ?_; try ((repeat ((fail_if_success (refine hK _ _ ?_)); clear hK K)); refine hK _ _ ?_; clear hK K)) | (refine a_bin ?_ ?_ <;> intro _ <;> try (exfalso; omega)) | fail)
  refine wk_loopH [] rfl (fun i : Nat => [(0, .slice aa l.length ac), (1, .slice ba l.length bc), (5, .int .i64 (i : Int))]) (fun i w' => i ≤ l.length ∧ Ext w w') (fun i => l.length - i) 0 ⟨rfl, rfl, rfl, trivial⟩ ⟨Nat.zero_le _, .refl _ _⟩ ?_
  rintro i t w2 ⟨hi, e2⟩
  by_cases hlt : i < l.length
  · obtain ⟨b, o, hpp, hrr⟩ := hap i hlt
    obtain ⟨b', o', hpp', hrr'⟩ := hbp i hlt
    have hrr := hrr w2 e2
    have hrr' := hrr' w2 e2
    generalize l[i] = z at *
    repeat' (first | refine a_mov ?_ | refine a_asg ?_ | refine a_binN ?_ | refine a_lenv ?_ | (refine o_nil (hK _ _ ?_); clear hK K) | refine wk_reg ?_ | refine wk_seq fun K hK => ?_ | (refine wk_skip (hK _ _ ?_); clear hK K) | refine wk_block ?_ | refine wk_cond_t rfl ?_ | refine wk_cond_f rfl ?_ | (refine wk_exit ?_; (repeat (refine blockK_other rfl ?_)); refine blockK_same ?_; try ((repeat ((fail_if_success (refine hK _ _ ?_)); clear hK K)); refine hK _ _ ?_; clear hK K)) | (refine a_bin ?_ ?_ <;> intro _ <;> try (exfalso; omega)) | fail)
    refine wk_quiet (List.range 9) ?_
    repeat' (first | refine q_idx (c := 1) i hpp ?_ | refine q_idx (c := 1) i hpp' ?_ | refine q_row (fun w_ hw_ => hrr.ext hw_) ?_ (hj := ⟨0, rfl, rfl⟩) | refine q_row (fun w_ hw_ => hrr'.ext hw_) ?_ (hj := ⟨0, rfl, rfl⟩) | refine q_mov ?_ | refine q_nil ?_ | (refine q_bin ?_ ?_ <;> intro _ <;> try (exfalso; omega)) | fail)
    intro w3 e3
    refine hK _ _ ?_
    clear hK K
    repeat' (first | refine a_mov ?_ | refine a_asg ?_ | refine a_binN ?_ | refine a_lenv ?_ | (refine o_nil (hK _ _ ?_); clear hK K) | refine wk_reg ?_ | refine wk_seq fun K hK => ?_ | (refine wk_skip (hK _ _ ?_); clear hK K) | refine wk_block ?_ | refine wk_cond_t rfl ?_ | refine wk_cond_f rfl ?_ | (refine wk_exit ?_; (repeat (refine blockK_other rfl ?_)); refine blockK_same ?_; try ((repeat ((fail_if_success (refine hK _ _ ?_)); clear hK K)); refine hK _ _ ?_; clear hK K)) | (refine a_bin ?_ ?_ <;> intro _ <;> try (exfalso; omega)) | fail)
    exact o_nil ⟨i + 1, ⟨rfl, rfl, rfl, trivial⟩, rfl, ⟨hlt, e2.trans e3⟩, by omega⟩
  obtain rfl : i = l.length := by omega
  repeat' (first | refine a_mov ?_ | refine a_asg ?_ | refine a_binN ?_ | refine a_lenv ?_ | (refine o_nil (hK _ _ ?_); clear hK K) | refine wk_reg ?_ | refine wk_seq fun K hK => ?_ | (refine wk_skip (hK _ _ ?_); clear hK K) | refine wk_block ?_ | refine wk_cond_t rfl ?_ | refine wk_cond_f rfl ?_ | (refine wk_exit ?_; (repeat (refine blockK_other rfl ?_)); refine blockK_same ?_; try ((repeat ((fail_if_success (refine hK _ _ ?_)); clear hK K)); refine hK _ _ ?_; clear hK K)) | (refine a_bin ?_ ?_ <;> intro _ <;> try (exfalso; omega)) | fail)
  refine wk_ret (retQ_tmp1 Tryz.results30 (by decide) rfl (by conv => lhs; whnf) ?_)
  exact ⟨rfl, e2⟩
set_option maxHeartbeats 8000000 in
theorem same31_calls {m : Mat} {x y : MV} {w : World} (hx : MatIn w m x) (hy : MatIn w m y) : Calls Tryz.prog 12 #[.agg (matL m x).toArray, .agg (matL m y).toArray] w (fun e w' => ∃ v, e = .returned v ∧ v = .bool true ∧ Ext w w') := by
  obtain ⟨ca, cc, ma, mc, ra, rc, la, lc, rfl⟩ := mv_shape hx
  obtain ⟨da, dc, na, nc, sa, sc, ka, kc, rfl⟩ := mv_shape hy
  obtain ⟨⟨xs, xsl⟩, ⟨xm, xml⟩, ⟨xr, xrl⟩, ⟨lp, hlp, xt, xli⟩, xtl⟩ := hx
  obtain ⟨⟨ys, ysl⟩, ⟨ym, yml⟩, ⟨yr, yrl⟩, ⟨lq, hlq, yt, yli⟩, ytl⟩ := hy
  simp only at xs xm xr xt ys ym yr yt
  have hlpl : lp.length = m.limits.length := by rw [← hlp, List.length_map]
  have hlql : lq.length = m.limits.length := by rw [← hlq, List.length_map]
  obtain ⟨ra', rc', he1, hrp⟩ := sl_each rightL_len (by decide) xr
  cases he1
  obtain ⟨sa', sc', he2, hsp⟩ := sl_each rightL_len (by decide) yr
  cases he2
  obtain ⟨la', lc', he3, hpp⟩ := sl_each limL_len (by decide) xt
  obtain ⟨rfl, -, -⟩ := Value.slice.inj he3
  obtain ⟨ka', kc', he4, hqp⟩ := sl_each limL_len (by decide) yt
  obtain ⟨rfl, -, -⟩ := Value.slice.inj he4
  refine calls_of Tryz.func12 rfl Tryz.ntmps12 rfl ?_
  repeat' (first | refine a_mov ?_ | refine a_asg ?_ | refine a_binN ?_ | refine a_notb ?_ | refine a_fa ?_ | refine a_lenv ?_ | refine a_pick_f ?_ | (refine o_nil (hK _ _ ?_); clear hK K) | refine wk_reg ?_ | refine wk_seq fun K hK => ?_ | (refine wk_skip (hK _ _ ?_); clear hK K) | refine wk_block ?_ | refine wk_cond_t rfl ?_ | refine wk_cond_f rfl ?_ | (refine wk_exit ?_; (repeat (refine blockK_other rfl ?_)); refine blockK_same ?_; try ((repeat ((fail_if_success (refine hK _ _ ?_)); clear hK K)); refine hK _ _ ?_; clear hK K)) | (refine a_bin ?_ ?_ <;> intro _ <;> try (exfalso; omega)) | fail)
  refine o_box (LH.start w (fun _ => False)) (matL m ⟨.slice ca m.cas.length cc, .slice ma m.moved.length mc, .slice ra m.rights.length rc, .slice la m.limits.length lc⟩) (by rfl) rfl rfl ?_
  intro b2 w0 hb2 hl
  refine o_box hl (matL m ⟨.slice da m.cas.length dc, .slice na m.moved.length nc, .slice sa m.rights.length sc, .slice ka m.limits.length kc⟩) (by rfl) rfl rfl ?_
  clear hl
  intro b3 w1 hb3 hl
  have e1 : Ext w w1 := hl.done
  have r2 : Row w1 b2 0 [str m.id, .int .i64 m.opened, .slice ca m.cas.length cc, str m.proc, .int .i64 m.stage, .slice ma m.moved.length mc, .slice ra m.rights.length rc, .slice la m.limits.length lc] := hl.rowL (vs := matL m ⟨.slice ca m.cas.length cc, .slice ma m.moved.length mc, .slice ra m.rights.length rc, .slice la m.limits.length lc⟩) 1 0 8 rfl
  have r3 : Row w1 b3 0 [str m.id, .int .i64 m.opened, .slice da m.cas.length dc, str m.proc, .int .i64 m.stage, .slice na m.moved.length nc, .slice sa m.rights.length sc, .slice ka m.limits.length kc] := hl.rowL (vs := matL m ⟨.slice da m.cas.length dc, .slice na m.moved.length nc, .slice sa m.rights.length sc, .slice ka m.limits.length kc⟩) 0 0 8 rfl
  clear hl
  repeat' (first | refine a_row r2 ?_ | refine a_row r3 ?_ | refine o_nesT (a := m.id) (b := m.id) rfl rfl rfl (fun h_ => absurd rfl h_) (fun _ => ?_) | refine o_nesT (a := m.proc) (b := m.proc) rfl rfl rfl (fun h_ => absurd rfl h_) (fun _ => ?_) | refine a_mov ?_ | refine a_asg ?_ | refine a_binN ?_ | refine a_notb ?_ | refine a_fa ?_ | refine a_lenv ?_ | refine a_pick_f ?_ | (refine o_nil (hK _ _ ?_); clear hK K) | refine wk_reg ?_ | refine wk_seq fun K hK => ?_ | (refine wk_skip (hK _ _ ?_); clear hK K) | refine wk_block ?_ | refine wk_cond_t rfl ?_ | refine wk_cond_f rfl ?_ | (refine wk_exit ?_; (repeat (refine blockK_other rfl ?_)); refine blockK_same ?_; try ((repeat ((fail_if_success (refine hK _ _ ?_)); clear hK K)); refine hK _ _ ?_; clear hK K)) | (refine a_bin ?_ ?_ <;> intro _ <;> try (exfalso; omega)) | fail)
  refine a_fn (ints_calls (xs.ext e1) (ys.ext e1) xsl) ?_
  rintro v w2 ⟨rfl, e2⟩
  replace r2 := r2.ext e2
  replace r3 := r3.ext e2
  replace e2 := e1.trans e2
  repeat' (first | refine a_row r2 ?_ | refine a_row r3 ?_ | refine a_mov ?_ | refine a_asg ?_ | refine a_binN ?_ | refine a_notb ?_ | refine a_fa ?_ | refine a_lenv ?_ | refine a_pick_f ?_ | (refine o_nil (hK _ _ ?_); clear hK K) | refine wk_reg ?_ | refine wk_seq fun K hK => ?_ | (refine wk_skip (hK _ _ ?_); clear hK K) | refine wk_block ?_ | refine wk_cond_t rfl ?_ | refine wk_cond_f rfl ?_ | (refine wk_exit ?_; (repeat (refine blockK_other rfl ?_)); refine blockK_same ?_; try ((repeat ((fail_if_success (refine hK _ _ ?_)); clear hK K)); refine hK _ _ ?_; clear hK K)) | (refine a_bin ?_ ?_ <;> intro _ <;> try (exfalso; omega)) | fail)
  refine a_fn (ints_calls (xm.ext e2) (ym.ext e2) xml) ?_
  rintro v w3 ⟨rfl, e3⟩
  replace r2 := r2.ext e3
  replace r3 := r3.ext e3
  replace e3 := e2.trans e3
  repeat' (first | refine a_row r2 ?_ | refine a_row r3 ?_ | refine a_mov ?_ | refine a_asg ?_ | refine a_binN ?_ | refine a_notb ?_ | refine a_fa ?_ | refine a_lenv ?_ | refine a_pick_f ?_ | (refine o_nil (hK _ _ ?_); clear hK K) | refine wk_reg ?_ | refine wk_seq fun K hK => ?_ | (refine wk_skip (hK _ _ ?_); clear hK K) | refine wk_block ?_ | refine wk_cond_t rfl ?_ | refine wk_cond_f rfl ?_ | (refine wk_exit ?_; (repeat (refine blockK_other rfl ?_)); refine blockK_same ?_; try ((repeat ((fail_if_success (refine hK _ _ ?_)); clear hK K)); refine hK _ _ ?_; clear hK K)) | (refine a_bin ?_ ?_ <;> intro _ <;> try (exfalso; omega)) | fail)
  refine wk_loopH [] rfl (fun i : Nat => [(2, .pointer (some ⟨b2, 0, none⟩)), (3, .pointer (some ⟨b3, 0, none⟩)), (5, .int .i64 (i : Int))]) (fun i w' => i ≤ m.rights.length ∧ Ext w3 w') (fun i => m.rights.length - i) 0 ⟨rfl, rfl, rfl, trivial⟩ ⟨Nat.zero_le _, .refl _ _⟩ ?_
  rintro i t w4 ⟨hi, e4⟩
  replace r2 := r2.ext e4
  replace r3 := r3.ext e4
  by_cases hlt : i < m.rights.length
  · obtain ⟨b, o, hpa, hrr⟩ := hrp i hlt
    obtain ⟨b', o', hpa', hrr'⟩ := hsp i hlt
    have hrr := hrr w4 (e3.trans e4)
    have hrr' := hrr' w4 (e3.trans e4)
    generalize m.rights[i] = s at *
    repeat' (first | refine a_row r2 ?_ | refine a_mov ?_ | refine a_asg ?_ | refine a_binN ?_ | refine a_notb ?_ | refine a_fa ?_ | refine a_lenv ?_ | refine a_pick_f ?_ | (refine o_nil (hK _ _ ?_); clear hK K) | refine wk_reg ?_ | refine wk_seq fun K hK => ?_ | (refine wk_skip (hK _ _ ?_); clear hK K) | refine wk_block ?_ | refine wk_cond_t rfl ?_ | refine wk_cond_f rfl ?_ | (refine wk_exit ?_; (repeat (refine blockK_other rfl ?_)); refine blockK_same ?_; try ((repeat ((fail_if_success (refine hK _ _ ?_)); clear hK K)); refine hK _ _ ?_; clear hK K)) | (refine a_bin ?_ ?_ <;> intro _ <;> try (exfalso; omega)) | fail)
    refine wk_quiet (List.range 11) ?_
    repeat' (first | refine q_row (fun w_ hw_ => r2.ext hw_) ?_ | refine q_row (fun w_ hw_ => r3.ext hw_) ?_ | refine q_idx (c := 2) i hpa ?_ | refine q_idx (c := 2) i hpa' ?_ | refine q_all (fun w_ hw_ => hrr.ext hw_) ?_ | refine q_all (fun w_ hw_ => hrr'.ext hw_) ?_ | refine q_pur rfl rfl rfl (fun _ => r_neS rfl rfl (by kernel_rfl) rfl (by kernel_rfl) (ScF.cast (.cons (by decide) rfl rfl rfl (by first | exact .int rfl | exact .str rfl | exact .bool rfl) (.cons (by decide) rfl rfl rfl (by first | exact .int rfl | exact .str rfl | exact .bool rfl) .nil)) (by simp))) ?_ | refine q_mov ?_ | refine q_fa ?_ | refine q_notb ?_ | refine q_nil ?_ | fail)
    intro w5 e5
    refine hK _ _ ?_
    clear hK K
    repeat' (first | refine a_mov ?_ | refine a_asg ?_ | refine a_binN ?_ | refine a_notb ?_ | refine a_fa ?_ | refine a_lenv ?_ | refine a_pick_f ?_ | (refine o_nil (hK _ _ ?_); clear hK K) | refine wk_reg ?_ | refine wk_seq fun K hK => ?_ | (refine wk_skip (hK _ _ ?_); clear hK K) | refine wk_block ?_ | refine wk_cond_t rfl ?_ | refine wk_cond_f rfl ?_ | (refine wk_exit ?_; (repeat (refine blockK_other rfl ?_)); refine blockK_same ?_; try ((repeat ((fail_if_success (refine hK _ _ ?_)); clear hK K)); refine hK _ _ ?_; clear hK K)) | (refine a_bin ?_ ?_ <;> intro _ <;> try (exfalso; omega)) | fail)
    exact o_nil ⟨i + 1, ⟨rfl, rfl, rfl, trivial⟩, rfl, ⟨hlt, e4.trans e5⟩, by omega⟩
  obtain rfl : i = m.rights.length := by omega
  repeat' (first | refine a_row r2 ?_ | refine a_row r3 ?_ | refine a_mov ?_ | refine a_asg ?_ | refine a_binN ?_ | refine a_notb ?_ | refine a_fa ?_ | refine a_lenv ?_ | refine a_pick_f ?_ | (refine o_nil (hK _ _ ?_); clear hK K) | refine wk_reg ?_ | refine wk_seq fun K hK => ?_ | (refine wk_skip (hK _ _ ?_); clear hK K) | refine wk_block ?_ | refine wk_cond_t rfl ?_ | refine wk_cond_f rfl ?_ | (refine wk_exit ?_; (repeat (refine blockK_other rfl ?_)); refine blockK_same ?_; try ((repeat ((fail_if_success (refine hK _ _ ?_)); clear hK K)); refine hK _ _ ?_; clear hK K)) | (refine a_bin ?_ ?_ <;> intro _ <;> try (exfalso; omega)) | fail)
  refine wk_loopH [] rfl (fun i : Nat => [(2, .pointer (some ⟨b2, 0, none⟩)), (3, .pointer (some ⟨b3, 0, none⟩)), (6, .int .i64 (i : Int))]) (fun i w' => i ≤ m.limits.length ∧ Ext w4 w') (fun i => m.limits.length - i) 0 ⟨rfl, rfl, rfl, trivial⟩ ⟨Nat.zero_le _, .refl _ _⟩ ?_
  rintro i t w5 ⟨hi, e5⟩
  replace r2 := r2.ext e5
  replace r3 := r3.ext e5
  by_cases hlt : i < m.limits.length
  · have hl1 : i < lp.length := by omega
    have hl2 : i < lq.length := by omega
    obtain ⟨b, o, hpa, hrr⟩ := hpp i hl1
    obtain ⟨b', o', hpa', hrr'⟩ := hqp i hl2
    have hrr := hrr w5 ((e3.trans e4).trans e5)
    have hrr' := hrr' w5 ((e3.trans e4).trans e5)
    have hi1 := xli _ (List.getElem_mem hl1)
    have hi2 := yli _ (List.getElem_mem hl2)
    have heq : lp[i].1 = lq[i].1 := by
      have h1 : (lp.map Prod.fst)[i]'(by rw [List.length_map]; exact hl1) = (lq.map Prod.fst)[i]'(by rw [List.length_map]; exact hl2) := by simp only [hlp, hlq]
      simpa using h1
    generalize lp[i] = p at *
    generalize lq[i] = q at *
    obtain ⟨l, s1⟩ := p
    obtain ⟨l', s2⟩ := q
    simp only at heq
    subst heq
    have hsm : ∀ w_, Ext w5 w_ → Calls Tryz.prog 23 #[.agg (limL (l, s1)).toArray, .agg (limL (l, s2)).toArray] w_ (fun e w' => ∃ v, e = .returned v ∧ v = .bool true ∧ Ext w_ w') := fun w_ he => same30_calls (hi1.ext (((e3.trans e4).trans e5).trans he)) (hi2.ext (((e3.trans e4).trans e5).trans he))
    repeat' (first | refine a_row r2 ?_ | refine a_mov ?_ | refine a_asg ?_ | refine a_binN ?_ | refine a_notb ?_ | refine a_fa ?_ | refine a_lenv ?_ | refine a_pick_f ?_ | (refine o_nil (hK _ _ ?_); clear hK K) | refine wk_reg ?_ | refine wk_seq fun K hK => ?_ | (refine wk_skip (hK _ _ ?_); clear hK K) | refine wk_block ?_ | refine wk_cond_t rfl ?_ | refine wk_cond_f rfl ?_ | (refine wk_exit ?_; (repeat (refine blockK_other rfl ?_)); refine blockK_same ?_; try ((repeat ((fail_if_success (refine hK _ _ ?_)); clear hK K)); refine hK _ _ ?_; clear hK K)) | (refine a_bin ?_ ?_ <;> intro _ <;> try (exfalso; omega)) | fail)
    refine wk_quiet (List.range 12) ?_
    repeat' (first | refine q_row (fun w_ hw_ => r2.ext hw_) ?_ | refine q_row (fun w_ hw_ => r3.ext hw_) ?_ | refine q_idx (c := 5) i hpa ?_ | refine q_idx (c := 5) i hpa' ?_ | refine q_all (fun w_ hw_ => hrr.ext hw_) ?_ | refine q_all (fun w_ hw_ => hrr'.ext hw_) ?_ | refine q_fn hsm ?_ | refine q_mov ?_ | refine q_fa ?_ | refine q_notb ?_ | refine q_nil ?_ | fail)
    intro w6 e6
    refine hK _ _ ?_
    clear hK K
    repeat' (first | refine a_mov ?_ | refine a_asg ?_ | refine a_binN ?_ | refine a_notb ?_ | refine a_fa ?_ | refine a_lenv ?_ | refine a_pick_f ?_ | (refine o_nil (hK _ _ ?_); clear hK K) | refine wk_reg ?_ | refine wk_seq fun K hK => ?_ | (refine wk_skip (hK _ _ ?_); clear hK K) | refine wk_block ?_ | refine wk_cond_t rfl ?_ | refine wk_cond_f rfl ?_ | (refine wk_exit ?_; (repeat (refine blockK_other rfl ?_)); refine blockK_same ?_; try ((repeat ((fail_if_success (refine hK _ _ ?_)); clear hK K)); refine hK _ _ ?_; clear hK K)) | (refine a_bin ?_ ?_ <;> intro _ <;> try (exfalso; omega)) | fail)
    exact o_nil ⟨i + 1, ⟨rfl, rfl, rfl, trivial⟩, rfl, ⟨hlt, e5.trans e6⟩, by omega⟩
  obtain rfl : i = m.limits.length := by omega
  repeat' (first | refine a_row r2 ?_ | refine a_row r3 ?_ | refine a_mov ?_ | refine a_asg ?_ | refine a_binN ?_ | refine a_notb ?_ | refine a_fa ?_ | refine a_lenv ?_ | refine a_pick_f ?_ | (refine o_nil (hK _ _ ?_); clear hK K) | refine wk_reg ?_ | refine wk_seq fun K hK => ?_ | (refine wk_skip (hK _ _ ?_); clear hK K) | refine wk_block ?_ | refine wk_cond_t rfl ?_ | refine wk_cond_f rfl ?_ | (refine wk_exit ?_; (repeat (refine blockK_other rfl ?_)); refine blockK_same ?_; try ((repeat ((fail_if_success (refine hK _ _ ?_)); clear hK K)); refine hK _ _ ?_; clear hK K)) | (refine a_bin ?_ ?_ <;> intro _ <;> try (exfalso; omega)) | fail)
  refine wk_ret (retQ_tmp1 Tryz.results12 (by decide) rfl (by conv => lhs; whnf) ?_)
  exact ⟨rfl, (e3.trans e4).trans e5⟩
theorem hasF_calls (r : Right) (nm : Tx) (day : Int) {b1 b2 : Nat} {w : World} (h1 : Row w b1 0 [str nm]) (h2 : Row w b2 0 [.int .i64 day]) : Calls Tryz.prog 38 #[.agg (rightL r).toArray, .pointer (some ⟨b1, 0, none⟩), .pointer (some ⟨b2, 0, none⟩)] w (fun e w' => ∃ v, e = .returned v ∧ v = .bool (decide (r.name = nm ∧ r.since ≤ day)) ∧ Ext w w') := by
  refine calls_of Tryz.func38 rfl Tryz.ntmps38 rfl ?_
  repeat' (first | refine a_mov ?_ | refine a_asg ?_ | refine a_fa ?_ | refine a_pick_t ?_ | refine a_pick_f ?_ | refine a_not ?_ | (refine o_nil (hK _ _ ?_); clear hK K) | refine wk_reg ?_ | refine wk_seq fun K hK => ?_ | (refine a_bin ?_ ?_ <;> intro _ <;> try (exfalso; omega)) | fail)
  refine o_box (LH.start w (fun _ => False)) (rightL r) (by rfl) rfl rfl ?_
  intro b3 w1 hb3 hl
  have e1 : Ext w w1 := hl.done
  have hr : Row w1 b3 0 [str r.name, .int .i64 r.since] := hl.rowL (vs := rightL r) 0 0 2 rfl
  replace h1 := h1.ext e1
  replace h2 := h2.ext e1
  clear hl
  by_cases hn : r.name = nm
  · by_cases hd : r.since ≤ day
    · repeat' (first | refine a_row hr ?_ | refine a_row h1 ?_ | refine a_row h2 ?_ | refine o_eqsT (a := r.name) (b := nm) rfl rfl rfl (fun _ => ?_) (fun h_ => absurd hn h_) | refine a_mov ?_ | refine a_asg ?_ | refine a_fa ?_ | refine a_pick_t ?_ | refine a_pick_f ?_ | refine a_not ?_ | (refine o_nil (hK _ _ ?_); clear hK K) | refine wk_reg ?_ | refine wk_seq fun K hK => ?_ | (refine a_bin ?_ ?_ <;> intro _ <;> try (exfalso; omega)) | fail)
      refine wk_ret (retQ_tmp1 Tryz.results38 (by decide) rfl (by conv => lhs; whnf) ?_)
      exact ⟨by rw [decide_eq_true ⟨hn, hd⟩], e1⟩
    · repeat' (first | refine a_row hr ?_ | refine a_row h1 ?_ | refine a_row h2 ?_ | refine o_eqsT (a := r.name) (b := nm) rfl rfl rfl (fun _ => ?_) (fun h_ => absurd hn h_) | refine a_mov ?_ | refine a_asg ?_ | refine a_fa ?_ | refine a_pick_t ?_ | refine a_pick_f ?_ | refine a_not ?_ | (refine o_nil (hK _ _ ?_); clear hK K) | refine wk_reg ?_ | refine wk_seq fun K hK => ?_ | (refine a_bin ?_ ?_ <;> intro _ <;> try (exfalso; omega)) | fail)
      refine wk_ret (retQ_tmp1 Tryz.results38 (by decide) rfl (by conv => lhs; whnf) ?_)
      exact ⟨by rw [decide_eq_false (fun h => hd h.2)], e1⟩
  · repeat' (first | refine a_row hr ?_ | refine a_row h1 ?_ | refine a_row h2 ?_ | refine o_eqsT (a := r.name) (b := nm) rfl rfl rfl (fun h_ => absurd h_ hn) (fun _ => ?_) | refine a_mov ?_ | refine a_asg ?_ | refine a_fa ?_ | refine a_pick_t ?_ | refine a_pick_f ?_ | refine a_not ?_ | (refine o_nil (hK _ _ ?_); clear hK K) | refine wk_reg ?_ | refine wk_seq fun K hK => ?_ | (refine a_bin ?_ ?_ <;> intro _ <;> try (exfalso; omega)) | fail)
    refine wk_ret (retQ_tmp1 Tryz.results38 (by decide) rfl (by conv => lhs; whnf) ?_)
    exact ⟨by rw [decide_eq_false (fun h => hn h.1)], e1⟩
theorem has_calls {m : Mat} {x : MV} {w : World} (h : MatIn w m x) (nm : Tx) (day : Int) : Calls Tryz.prog 15 #[.agg (matL m x).toArray, str nm, .int .i64 day] w (fun e w' => ∃ v, e = .returned v ∧ v = .bool (m.rights.any fun r => decide (r.name = nm ∧ r.since ≤ day)) ∧ Ext w w') := by
  refine calls_of Tryz.func15 rfl Tryz.ntmps15 rfl ?_
  repeat' (first | refine a_asg ?_ | refine a_fa ?_ | (refine o_nil (hK _ _ ?_); clear hK K) | refine wk_reg ?_ | refine wk_seq fun K hK => ?_ | fail)
  refine o_box (LH.start w (fun _ => False)) (matL m x) (by rfl) rfl rfl ?_
  intro b1 w1 hb1 hl
  refine o_box hl [str nm] rfl rfl (by simp only [str_eq]; rfl) ?_
  clear hl
  intro b2 w2 hb2 hl
  refine o_box hl [.int .i64 day] rfl rfl rfl ?_
  clear hl
  intro b3 w3 hb3 hl
  have e3 : Ext w w3 := hl.done
  have hr : Row w3 b1 0 [str m.id, .int .i64 m.opened, x.c, str m.proc, .int .i64 m.stage, x.mv, x.r, x.l] := hl.rowL (vs := matL m x) 2 0 8 rfl
  have h1 : Row w3 b2 0 [str nm] := hl.rowL 1 0 1 rfl
  have h2 : Row w3 b3 0 [.int .i64 day] := hl.rowL 0 0 1 rfl
  clear hl
  have hany : Calls Tryz.prog 37 #[x.r, .func (.func 38) #[] #[.pointer (some ⟨b2, 0, none⟩), .pointer (some ⟨b3, 0, none⟩)]] w3 (fun e w' => ∃ v, e = .returned v ∧ v = .bool (m.rights.any fun r => decide (r.name = nm ∧ r.since ≤ day)) ∧ Ext w3 w') :=
    rightAny_calls (f := rightL) (q := fun r => decide (r.name = nm ∧ r.since ≤ day)) rightL_len (h.2.2.1.1.ext e3) h.2.2.1.2 (fun r hr w4 e4 => ⟨_, _, _, rfl, fun _ => rfl, hasF_calls r nm day (h1.ext e4) (h2.ext e4)⟩)
  repeat' (first | refine a_row hr ?_ | refine o_mf [] [.pointer (some ⟨b2, 0, none⟩), .pointer (some ⟨b3, 0, none⟩)] rfl rfl rfl ?_ | refine a_asg ?_ | refine a_fa ?_ | (refine o_nil (hK _ _ ?_); clear hK K) | refine wk_reg ?_ | refine wk_seq fun K hK => ?_ | fail)
  refine a_fn hany ?_
  rintro v w4 ⟨rfl, e4⟩
  repeat' (first | refine a_asg ?_ | refine a_fa ?_ | (refine o_nil (hK _ _ ?_); clear hK K) | refine wk_reg ?_ | refine wk_seq fun K hK => ?_ | fail)
  refine wk_ret (retQ_tmp1 Tryz.results15 (by decide) rfl (by conv => lhs; whnf) ?_)
  exact ⟨rfl, e3.trans e4⟩
end Go.Proofs
