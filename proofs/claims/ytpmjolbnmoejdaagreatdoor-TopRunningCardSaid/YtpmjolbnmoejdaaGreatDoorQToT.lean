/-
  Limits: a further stop (what matters is the error).
-/
import Derived.Test.YtpmjolbnmoejdaaGreatDoorQFr
import Derived.Test.YtpmjolbnmoejdaaGreatDoorQToJ
import Derived.Test.YtpmjolbnmoejdaaGreatDoorQLC
set_option linter.unusedVariables false
set_option linter.unusedSimpArgs false
set_option linter.unnecessarySimpa false
set_option maxRecDepth 10000
namespace Go.Proofs
open Go Go.Pd Go.Top
attribute [local irreducible] OpsL W RetQ OpsQ OpsC
def pauseE (l : Lim) (s : Stop) : Int := if properB l && stopB s then (if l.st.length = 60 then 2 else 0) else 1
def PauseOut (e : Int) (v : Value) : Prop := ∃ vs : List Value, vs.length = 5 ∧ vs.all Value.oneCell' = true ∧ v = .tuple #[.agg vs.toArray, .int .i64 e]
set_option maxHeartbeats 4000000 in
theorem pause_calls {p : Lim × Value} {w : World} (h : LimIn w p) (s : Stop) : Calls Tryz.prog 96 #[.agg (limL p).toArray, .agg (stopL s).toArray] w (fun e w' => ∃ v, e = .returned v ∧ PauseOut (pauseE p.1 s) v ∧ Ext w w') := by
  obtain ⟨l, sv⟩ := p
  obtain ⟨sa, sc, hsv⟩ := lim_shape h
  simp only at hsv
  subst hsv
  have hpe : pauseE l s = if properB l && stopB s then (if l.st.length = 60 then 2 else 0) else 1 := rfl
  simp only
  refine calls_of Tryz.func96 rfl Tryz.ntmps96 rfl ?_
  repeat' (first | refine a_mov ?_ | refine a_asg ?_ | refine a_notb ?_ | refine a_fa ?_ | refine a_lenv ?_ | refine a_pick_t ?_ | refine a_pick_f ?_ | refine a_not ?_ | (refine o_nil (hK _ _ ?_); clear hK K) | refine wk_reg ?_ | refine wk_seq fun K hK => ?_ | (refine wk_skip (hK _ _ ?_); clear hK K) | refine wk_block ?_ | refine wk_cond_t rfl ?_ | refine wk_cond_f rfl ?_ | (refine a_bin ?_ ?_ <;> intro _ <;> try (exfalso; omega)) | fail)
  refine o_box (LH.start w (fun _ => False)) (limL (l, .slice sa l.st.length sc)) rfl rfl rfl ?_
  intro b2 w1 hb2 hl
  refine o_box hl (stopL s) rfl rfl rfl ?_
  clear hl
  intro b3 w2 hb3 hl
  refine o_alloc hl zeroL rfl (by kernel_rfl) ?_
  clear hl
  intro b4 w3 hb4 hl
  repeat' (first | refine a_mov ?_ | refine a_asg ?_ | refine a_notb ?_ | refine a_fa ?_ | refine a_lenv ?_ | refine a_pick_t ?_ | refine a_pick_f ?_ | refine a_not ?_ | (refine o_nil (hK _ _ ?_); clear hK K) | refine wk_reg ?_ | refine wk_seq fun K hK => ?_ | (refine wk_skip (hK _ _ ?_); clear hK K) | refine wk_block ?_ | refine wk_cond_t rfl ?_ | refine wk_cond_f rfl ?_ | (refine a_bin ?_ ?_ <;> intro _ <;> try (exfalso; omega)) | fail)
  refine a_all (vs := limL (l, .slice sa l.st.length sc)) (hl.rowL 2 0 5 rfl) ?_
  refine a_fn (proper_calls (h.ext hl.done)) ?_
  rintro v w4 ⟨rfl, e4⟩
  replace hl := hl.ext e4
  cases hp : properB l
  · rw [hp] at hpe
    replace hpe := hpe.trans (if_neg (by simp))
    repeat' (first | refine a_mov ?_ | refine a_asg ?_ | refine a_notb ?_ | refine a_fa ?_ | refine a_lenv ?_ | refine a_pick_t ?_ | refine a_pick_f ?_ | refine a_not ?_ | (refine o_nil (hK _ _ ?_); clear hK K) | refine wk_reg ?_ | refine wk_seq fun K hK => ?_ | (refine wk_skip (hK _ _ ?_); clear hK K) | refine wk_block ?_ | refine wk_cond_t rfl ?_ | refine wk_cond_f rfl ?_ | (refine a_bin ?_ ?_ <;> intro _ <;> try (exfalso; omega)) | fail)
    refine o_build zeroL rfl (by kernel_rfl) ?_
    repeat' (first | refine a_mov ?_ | refine a_asg ?_ | refine a_notb ?_ | refine a_fa ?_ | refine a_lenv ?_ | refine a_pick_t ?_ | refine a_pick_f ?_ | refine a_not ?_ | (refine a_bin ?_ ?_ <;> intro _ <;> try (exfalso; omega)) | fail)
    refine o_store hl 0 zeroL rfl rfl rfl rfl rfl (by rw [limL_len0]; decide) rfl ?_
    clear hl
    intro w9 hl
    have hl : LH w (fun _ => False) w9 [(b4, .cells zeroL.toArray 56 (0, 0)), _, _] := hl
    repeat' (first | refine a_mov ?_ | refine a_asg ?_ | refine a_notb ?_ | refine a_fa ?_ | refine a_lenv ?_ | refine a_pick_t ?_ | refine a_pick_f ?_ | refine a_not ?_ | (refine o_nil (hK _ _ ?_); clear hK K) | refine wk_reg ?_ | refine wk_seq fun K hK => ?_ | (refine wk_skip (hK _ _ ?_); clear hK K) | refine wk_block ?_ | refine wk_cond_t rfl ?_ | refine wk_cond_f rfl ?_ | (refine a_bin ?_ ?_ <;> intro _ <;> try (exfalso; omega)) | fail)
    refine wk_ret (retQ_res [.agg zeroL.toArray, .int .i64 1] rfl rfl ⟨by decide, ⟨⟨b4, 0, none⟩, rfl, run_loadVarN rfl rfl (hl.rowL (vs := zeroL) 0 0 5 rfl)⟩, by decide, rfl, trivial⟩ ?_)
    refine ⟨?_, hl.done⟩
    rw [hpe]
    exact ⟨zeroL, rfl, rfl, rfl⟩
  repeat' (first | refine a_mov ?_ | refine a_asg ?_ | refine a_notb ?_ | refine a_fa ?_ | refine a_lenv ?_ | refine a_pick_t ?_ | refine a_pick_f ?_ | refine a_not ?_ | (refine o_nil (hK _ _ ?_); clear hK K) | refine wk_reg ?_ | refine wk_seq fun K hK => ?_ | (refine wk_skip (hK _ _ ?_); clear hK K) | refine wk_block ?_ | refine wk_cond_t rfl ?_ | refine wk_cond_f rfl ?_ | (refine a_bin ?_ ?_ <;> intro _ <;> try (exfalso; omega)) | fail)
  refine a_all (vs := stopL s) (hl.rowL 1 0 2 rfl) ?_
  refine a_fn (properStop_calls s w4) ?_
  rintro v w5 ⟨rfl, e5⟩
  replace hl := hl.ext e5
  cases hs : stopB s
  · rw [hp, hs] at hpe
    replace hpe := hpe.trans (if_neg (by simp))
    repeat' (first | refine a_mov ?_ | refine a_asg ?_ | refine a_notb ?_ | refine a_fa ?_ | refine a_lenv ?_ | refine a_pick_t ?_ | refine a_pick_f ?_ | refine a_not ?_ | (refine o_nil (hK _ _ ?_); clear hK K) | refine wk_reg ?_ | refine wk_seq fun K hK => ?_ | (refine wk_skip (hK _ _ ?_); clear hK K) | refine wk_block ?_ | refine wk_cond_t rfl ?_ | refine wk_cond_f rfl ?_ | (refine a_bin ?_ ?_ <;> intro _ <;> try (exfalso; omega)) | fail)
    refine o_build zeroL rfl (by kernel_rfl) ?_
    repeat' (first | refine a_mov ?_ | refine a_asg ?_ | refine a_notb ?_ | refine a_fa ?_ | refine a_lenv ?_ | refine a_pick_t ?_ | refine a_pick_f ?_ | refine a_not ?_ | (refine a_bin ?_ ?_ <;> intro _ <;> try (exfalso; omega)) | fail)
    refine o_store hl 0 zeroL rfl rfl rfl rfl rfl (by rw [limL_len0]; decide) rfl ?_
    clear hl
    intro w9 hl
    have hl : LH w (fun _ => False) w9 [(b4, .cells zeroL.toArray 56 (0, 0)), _, _] := hl
    repeat' (first | refine a_mov ?_ | refine a_asg ?_ | refine a_notb ?_ | refine a_fa ?_ | refine a_lenv ?_ | refine a_pick_t ?_ | refine a_pick_f ?_ | refine a_not ?_ | (refine o_nil (hK _ _ ?_); clear hK K) | refine wk_reg ?_ | refine wk_seq fun K hK => ?_ | (refine wk_skip (hK _ _ ?_); clear hK K) | refine wk_block ?_ | refine wk_cond_t rfl ?_ | refine wk_cond_f rfl ?_ | (refine a_bin ?_ ?_ <;> intro _ <;> try (exfalso; omega)) | fail)
    refine wk_ret (retQ_res [.agg zeroL.toArray, .int .i64 1] rfl rfl ⟨by decide, ⟨⟨b4, 0, none⟩, rfl, run_loadVarN rfl rfl (hl.rowL (vs := zeroL) 0 0 5 rfl)⟩, by decide, rfl, trivial⟩ ?_)
    refine ⟨?_, hl.done⟩
    rw [hpe]
    exact ⟨zeroL, rfl, rfl, rfl⟩
  rw [hp, hs] at hpe
  replace hpe := hpe.trans (if_pos rfl)
  have hr2 : Row w5 b2 0 [str l.id, .int .i64 l.n, .int .i64 l.u, .int .i64 l.f, .slice sa l.st.length sc] := hl.rowL (vs := limL (l, .slice sa l.st.length sc)) 2 0 5 rfl
  by_cases h60 : l.st.length = 60
  · rw [if_pos h60] at hpe
    repeat' (first | refine a_row hr2 ?_ | refine a_mov ?_ | refine a_asg ?_ | refine a_notb ?_ | refine a_fa ?_ | refine a_lenv ?_ | refine a_pick_t ?_ | refine a_pick_f ?_ | refine a_not ?_ | (refine o_nil (hK _ _ ?_); clear hK K) | refine wk_reg ?_ | refine wk_seq fun K hK => ?_ | (refine wk_skip (hK _ _ ?_); clear hK K) | refine wk_block ?_ | refine wk_cond_t rfl ?_ | refine wk_cond_f rfl ?_ | (refine a_bin ?_ ?_ <;> intro _ <;> try (exfalso; omega)) | fail)
    refine o_build zeroL rfl (by kernel_rfl) ?_
    repeat' (first | refine a_mov ?_ | refine a_asg ?_ | refine a_notb ?_ | refine a_fa ?_ | refine a_lenv ?_ | refine a_pick_t ?_ | refine a_pick_f ?_ | refine a_not ?_ | (refine a_bin ?_ ?_ <;> intro _ <;> try (exfalso; omega)) | fail)
    refine o_store hl 0 zeroL rfl rfl rfl rfl rfl (by rw [limL_len0]; decide) rfl ?_
    clear hl
    intro w9 hl
    have hl : LH w (fun _ => False) w9 [(b4, .cells zeroL.toArray 56 (0, 0)), _, _] := hl
    repeat' (first | refine a_mov ?_ | refine a_asg ?_ | refine a_notb ?_ | refine a_fa ?_ | refine a_lenv ?_ | refine a_pick_t ?_ | refine a_pick_f ?_ | refine a_not ?_ | (refine o_nil (hK _ _ ?_); clear hK K) | refine wk_reg ?_ | refine wk_seq fun K hK => ?_ | (refine wk_skip (hK _ _ ?_); clear hK K) | refine wk_block ?_ | refine wk_cond_t rfl ?_ | refine wk_cond_f rfl ?_ | (refine a_bin ?_ ?_ <;> intro _ <;> try (exfalso; omega)) | fail)
    refine wk_ret (retQ_res [.agg zeroL.toArray, .int .i64 2] rfl rfl ⟨by decide, ⟨⟨b4, 0, none⟩, rfl, run_loadVarN rfl rfl (hl.rowL (vs := zeroL) 0 0 5 rfl)⟩, by decide, rfl, trivial⟩ ?_)
    refine ⟨?_, hl.done⟩
    rw [hpe]
    exact ⟨zeroL, rfl, rfl, rfl⟩
  · rw [if_neg h60] at hpe
    repeat' (first | refine a_row hr2 ?_ | refine a_mov ?_ | refine a_asg ?_ | refine a_notb ?_ | refine a_fa ?_ | refine a_lenv ?_ | refine a_pick_t ?_ | refine a_pick_f ?_ | refine a_not ?_ | (refine o_nil (hK _ _ ?_); clear hK K) | refine wk_reg ?_ | refine wk_seq fun K hK => ?_ | (refine wk_skip (hK _ _ ?_); clear hK K) | refine wk_block ?_ | refine wk_cond_t rfl ?_ | refine wk_cond_f rfl ?_ | (refine a_bin ?_ ?_ <;> intro _ <;> try (exfalso; omega)) | fail)
    have hr3 : Row w5 b3 0 (stopL s) := hl.rowL (vs := stopL s) 1 0 2 rfl
    have hst : Sl w5 (.slice sa l.st.length sc) 2 (l.st.flatMap stopL) := (h.ext hl.done).1
    have hlen : l.st.length ≤ 60 := by
      simp only [properB, Bool.and_eq_true, decide_eq_true_eq] at hp
      exact hp.1.2
    have hstone : (l.st.flatMap stopL).all Value.oneCell' = true := by
      rw [List.all_eq_true]
      intro v hv
      obtain ⟨x, -, hx⟩ := List.mem_flatMap.1 hv
      simp only [stopL, List.mem_cons, List.not_mem_nil, or_false] at hx
      rcases hx with rfl | rfl <;> rfl
    refine wk_tree [0, 1, 3, 6] [1, 3] [2, 4, 5, 7] [] [] (fun w' => To w5 w' w5.heap) (fun w' => Ext w5 w') rfl (by kernel_rfl) (fun _ _ _ _ h => by first | exact h | (simp only [BlockK, NoGoto, RetQ] at h)) (fun _ h => h) (fun w' h => Upd.of_heap h) ?_
    repeat' (first | refine q_fa ?_ | refine q_nil ?_ | refine q_late rfl rfl rfl rfl (fun w' hw' => r_load rfl rfl ((hr2.ext hw') 4 _ rfl)) ?_ | refine q_late rfl rfl rfl rfl (fun w' hw' => r_loadN (vs := stopL s) rfl rfl rfl (hr3.ext hw')) ?_ | fail)
    intro w7 hw7
    have hlh : LH w5 (fun _ => False) w7 [] := (LH.start w5 _).heap hw7
    clear hw7
    refine opsT_2 (i := 2) (i' := 4) (by kernel_rfl) rfl rfl rfl rfl ?_ ?_
    · refine a_fn (stopClone_calls (l := l.st) (f := stopL) stopL_len hstone (hst.ext hlh.done) (by omega)) ?_
      rintro v w8 ⟨acc, hla, hacc⟩
      have hlh : LH w5 (fun _ => False) w8 ([] ++ acc) := by have := hlh.join hla; rwa [List.append_nil] at this
      obtain ⟨va, vc, rfl⟩ := hacc.shape
      refine o_nil ⟨.inl hlh.done, ?_⟩
      refine opsT_1 (i := 4) (by kernel_rfl) rfl rfl ?_
      refine o_buildSlice hlh (stopL s) rfl rfl (by kernel_rfl) ?_
      clear hlh
      intro bt w9 hbt hlh
      refine o_nil ⟨.inl hlh.done, ?_⟩
      have hlh : LH _ _ _ ([_] ++ acc) := hlh
      refine opsT_1 (i := 5) (by kernel_rfl) rfl rfl ?_
      refine o_append (k := 2) (bytes := 16) (m := l.st.length) (q := 1) (us := stopL s) hlh hacc (hlh.rowL (vs := stopL s) 0 0 2 rfl) rfl rfl (by decide) (by omega) (by omega) rfl rfl (by kernel_rfl) rfl rfl ?_
      clear hlh hacc
      intro v2 w10 acc2 hlh hacc
      obtain ⟨x2, y2, rfl⟩ := hacc.shape
      refine o_nil ⟨.inl hlh.done, ?_⟩
      refine opsT_1 (i := 7) (by kernel_rfl) rfl rfl ?_
      replace hl := hl.ext hlh.done
      refine o_store hl 2 [.slice x2 (l.st.length + 1) y2] rfl rfl rfl rfl rfl (by simp [limL]) rfl ?_
      clear hl
      intro w11 hl
      refine o_nil ⟨.inr (by kernel_rfl), ?_⟩
      refine opsT_nil ?_
      unfold PostQ
      refine q_nil ?_
      have hl : LH w (fun _ => False) w11 [(b4, .cells zeroL.toArray 56 (0, 0)), (b3, .cells (stopL s).toArray 93 (0, 0)), (b2, .cells (limL (l, .slice x2 (l.st.length + 1) y2)).toArray 56 (0, 0))] := hl
      refine hK _ _ ?_
      clear hK K
      repeat' (first | refine a_mov ?_ | refine a_asg ?_ | refine a_notb ?_ | refine a_fa ?_ | refine a_lenv ?_ | refine a_pick_t ?_ | refine a_pick_f ?_ | refine a_not ?_ | (refine o_nil (hK _ _ ?_); clear hK K) | refine wk_reg ?_ | refine wk_seq fun K hK => ?_ | (refine wk_skip (hK _ _ ?_); clear hK K) | refine wk_block ?_ | refine wk_cond_t rfl ?_ | refine wk_cond_f rfl ?_ | (refine a_bin ?_ ?_ <;> intro _ <;> try (exfalso; omega)) | fail)
      refine a_all (vs := limL (l, .slice x2 (l.st.length + 1) y2)) (hl.rowL 2 0 5 rfl) ?_
      refine o_store hl 0 (limL (l, .slice x2 (l.st.length + 1) y2)) rfl rfl rfl rfl rfl (by rw [limL_len]; decide) (limL_one (l, .slice x2 (l.st.length + 1) y2) rfl) ?_
      clear hl
      intro w12 hl
      have hl : LH w (fun _ => False) w12 [(b4, .cells (limL (l, .slice x2 (l.st.length + 1) y2)).toArray 56 (0, 0)), _, _] := hl
      repeat' (first | refine a_mov ?_ | refine a_asg ?_ | refine a_notb ?_ | refine a_fa ?_ | refine a_lenv ?_ | refine a_pick_t ?_ | refine a_pick_f ?_ | refine a_not ?_ | (refine o_nil (hK _ _ ?_); clear hK K) | refine wk_reg ?_ | refine wk_seq fun K hK => ?_ | (refine wk_skip (hK _ _ ?_); clear hK K) | refine wk_block ?_ | refine wk_cond_t rfl ?_ | refine wk_cond_f rfl ?_ | (refine a_bin ?_ ?_ <;> intro _ <;> try (exfalso; omega)) | fail)
      refine wk_ret (retQ_res [.agg (limL (l, .slice x2 (l.st.length + 1) y2)).toArray, .int .i64 0] rfl rfl ⟨by decide, ⟨⟨b4, 0, none⟩, rfl, run_loadVarN rfl rfl (hl.rowL (vs := limL (l, .slice x2 (l.st.length + 1) y2)) 0 0 5 rfl)⟩, by decide, rfl, trivial⟩ ?_)
      refine ⟨?_, hl.done⟩
      rw [hpe]
      exact ⟨limL (l, .slice x2 (l.st.length + 1) y2), rfl, limL_one (l, .slice x2 (l.st.length + 1) y2) rfl, rfl⟩
    · refine o_buildSlice hlh (stopL s) rfl rfl (by kernel_rfl) ?_
      clear hlh
      intro bt w9 hbt hlh
      refine o_nil ⟨.inl hlh.done, ?_⟩
      refine opsT_1 (i := 2) (by kernel_rfl) rfl rfl ?_
      refine a_fn (stopClone_calls (l := l.st) (f := stopL) stopL_len hstone (hst.ext hlh.done) (by omega)) ?_
      rintro v w8 ⟨acc, hla, hacc⟩
      obtain ⟨va, vc, rfl⟩ := hacc.shape
      have hlh : LH w5 (fun _ => False) w8 ([_] ++ acc) := (hlh.join hla).perm List.perm_append_comm
      refine o_nil ⟨.inl hlh.done, ?_⟩
      refine opsT_1 (i := 5) (by kernel_rfl) rfl rfl ?_
      refine o_append (k := 2) (bytes := 16) (m := l.st.length) (q := 1) (us := stopL s) hlh hacc (hlh.rowL (vs := stopL s) 0 0 2 rfl) rfl rfl (by decide) (by omega) (by omega) rfl rfl (by kernel_rfl) rfl rfl ?_
      clear hlh hacc
      intro v2 w10 acc2 hlh hacc
      obtain ⟨x2, y2, rfl⟩ := hacc.shape
      refine o_nil ⟨.inl hlh.done, ?_⟩
      refine opsT_1 (i := 7) (by kernel_rfl) rfl rfl ?_
      replace hl := hl.ext hlh.done
      refine o_store hl 2 [.slice x2 (l.st.length + 1) y2] rfl rfl rfl rfl rfl (by simp [limL]) rfl ?_
      clear hl
      intro w11 hl
      refine o_nil ⟨.inr (by kernel_rfl), ?_⟩
      refine opsT_nil ?_
      unfold PostQ
      refine q_nil ?_
      have hl : LH w (fun _ => False) w11 [(b4, .cells zeroL.toArray 56 (0, 0)), (b3, .cells (stopL s).toArray 93 (0, 0)), (b2, .cells (limL (l, .slice x2 (l.st.length + 1) y2)).toArray 56 (0, 0))] := hl
      refine hK _ _ ?_
      clear hK K
      repeat' (first | refine a_mov ?_ | refine a_asg ?_ | refine a_notb ?_ | refine a_fa ?_ | refine a_lenv ?_ | refine a_pick_t ?_ | refine a_pick_f ?_ | refine a_not ?_ | (refine o_nil (hK _ _ ?_); clear hK K) | refine wk_reg ?_ | refine wk_seq fun K hK => ?_ | (refine wk_skip (hK _ _ ?_); clear hK K) | refine wk_block ?_ | refine wk_cond_t rfl ?_ | refine wk_cond_f rfl ?_ | (refine a_bin ?_ ?_ <;> intro _ <;> try (exfalso; omega)) | fail)
      refine a_all (vs := limL (l, .slice x2 (l.st.length + 1) y2)) (hl.rowL 2 0 5 rfl) ?_
      refine o_store hl 0 (limL (l, .slice x2 (l.st.length + 1) y2)) rfl rfl rfl rfl rfl (by rw [limL_len]; decide) (limL_one (l, .slice x2 (l.st.length + 1) y2) rfl) ?_
      clear hl
      intro w12 hl
      have hl : LH w (fun _ => False) w12 [(b4, .cells (limL (l, .slice x2 (l.st.length + 1) y2)).toArray 56 (0, 0)), _, _] := hl
      repeat' (first | refine a_mov ?_ | refine a_asg ?_ | refine a_notb ?_ | refine a_fa ?_ | refine a_lenv ?_ | refine a_pick_t ?_ | refine a_pick_f ?_ | refine a_not ?_ | (refine o_nil (hK _ _ ?_); clear hK K) | refine wk_reg ?_ | refine wk_seq fun K hK => ?_ | (refine wk_skip (hK _ _ ?_); clear hK K) | refine wk_block ?_ | refine wk_cond_t rfl ?_ | refine wk_cond_f rfl ?_ | (refine a_bin ?_ ?_ <;> intro _ <;> try (exfalso; omega)) | fail)
      refine wk_ret (retQ_res [.agg (limL (l, .slice x2 (l.st.length + 1) y2)).toArray, .int .i64 0] rfl rfl ⟨by decide, ⟨⟨b4, 0, none⟩, rfl, run_loadVarN rfl rfl (hl.rowL (vs := limL (l, .slice x2 (l.st.length + 1) y2)) 0 0 5 rfl)⟩, by decide, rfl, trivial⟩ ?_)
      refine ⟨?_, hl.done⟩
      rw [hpe]
      exact ⟨limL (l, .slice x2 (l.st.length + 1) y2), rfl, limL_one (l, .slice x2 (l.st.length + 1) y2) rfl, rfl⟩
end Go.Proofs
