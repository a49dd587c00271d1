/-
  The statement about names, walked.
-/
import Derived.Test.YtebaoilkpedppaaGreatDoorStAa
import Derived.Test.YtebaoilkpedppaaGreatDoorStAb
set_option linter.unusedVariables false
set_option linter.unusedSimpArgs false
set_option linter.unnecessarySimpa false
set_option maxRecDepth 10000
namespace Go.Pd
open Go
section
variable {P : Program} {r : Option Nat} {n : Nat} {s : St} {w : World} {d : Nat} {ty : TypeId} {p : String} {af : Array Edge} {g : Option (Nat × Bool)}
/-- A slice cut behind, as a value. -/
theorem r_cutvS {t e k m c a b o : Nat} {x hi : Operand} (hu : P.underlying t = some (.slice e)) (hs : sizeT P e = some k) (h1 : a ≤ m) (h2 : m ≤ c) (h0 : 0 < m) (hx : rd n s x = .slice (some ⟨b, o, none⟩) m c) (hlo : rd n s hi = .int .i64 (a : Int)) :
    (Oper.semAt r (rd n s) ⟨some d, .slice t x none (some hi) none, ty, p, af, g⟩).run P w = .ok (.value (.slice (some ⟨b, o, none⟩) a c)) w := by
  have hb : (Instr.sliceBounds true m c none (some (.int .i64 (a : Int))) none).run P w = Result.ok (0, a, c) w := by
    unfold Instr.sliceBounds
    rw [sem_bind (a := c) (w' := w) (by simp [pure, Sem.run])]
    simp only
    rw [sem_bind (a := a) (w' := w) (run_sliceBound rfl (by omega) w)]
    rfl
  have key : (Instr.sliceAt t (.slice (some ⟨b, o, none⟩) m c) none (some (.int .i64 (a : Int))) none).run P w = Result.ok (.slice (some ⟨b, o, none⟩) a c) w := by
    unfold Instr.sliceAt
    rw [sem_bind (run_underlying' hu w)]
    simp only
    unfold Instr.slice
    rw [sem_bind (run_underlying' hu w)]
    simp only
    rw [sem_bind hb]
    simp only
    rw [sem_bind (run_sizeT hs w)]
    show Result.ok (Value.slice (if c = 0 then (some ⟨b, o, none⟩ : Option Addr) else (some ⟨b, o, none⟩ : Option Addr).map (·.add (0 * k))) (a - 0) (c - 0)) w = _
    rw [if_neg (by omega), Nat.sub_zero, Nat.sub_zero, Nat.zero_mul, Option.map_some, add_mk, Nat.add_zero]
  rw [Oper.semAt_eq _ _ _ (fun c e => by cases e)]
  simp only [execOp, hx, hlo, Option.map_some, Option.map_none]
  rw [sem_bind key]
  rfl
end
end Go.Pd
namespace Go.Proofs
open Go Go.Pd Go.Sta
attribute [local irreducible] OpsL W RetQ OpsQ OpsC
theorem cell_at {l : List Tx} {w : World} {a : Option Addr} {m c : Nat} (h : Sl w (.slice a m c) 1 (l.map str)) (hm : m = l.length) {i : Nat} (hi : i < l.length) : ∃ b o, a = some ⟨b, o, none⟩ ∧ Row w b (o + i * 1) [str l[i]] := by
  subst hm
  obtain ⟨b1, o1, rfl, hr1⟩ := h.at (strL_flat l) (by omega) (by omega)
  refine ⟨b1, o1, rfl, fun j v hj => ?_⟩
  cases j with
  | zero =>
    have := hr1 i (str l[i]) (by simp [hi])
    simp at hj
    rw [← hj]
    simpa using this
  | succ j => simp at hj
theorem in_calls {l : List Tx} {t : Tx} {lv : Value} {w : World} (h : Sl w lv 1 (l.map str)) (hn : l.length ≤ 1000000) : Calls Tryz.prog 16 #[lv, str t] w (fun e w' => ∃ v, e = .returned v ∧ v = .bool (decide (t ∈ l)) ∧ Ext w w') := by
  obtain ⟨a, c, rfl, -⟩ := h.shape (strL_flat l) (by omega)
  refine calls_of Tryz.func16 rfl Tryz.ntmps16 rfl ?_
  refine wk_seq fun K hK => ?_
  refine wk_reg ?_
  refine a_asg ?_
  refine o_nil (hK _ _ ?_)
  clear hK K
  refine wk_seq fun K hK => ?_
  refine wk_seq fun K2 hK2 => ?_
  refine wk_reg ?_
  refine a_asg ?_
  refine o_nil (hK2 _ _ ?_)
  clear hK2 K2
  refine wk_block ?_
  refine wk_loopH [] rfl (fun i : Nat => [(0, .slice a l.length c), (1, str t), (5, .int .i64 (i : Int))]) (fun i w' => (i ≤ l.length ∧ t ∉ l.take i) ∧ Ext w w') (fun i => l.length - i) 0 ⟨rfl, rfl, rfl, trivial⟩ ⟨⟨Nat.zero_le _, by simp⟩, .refl _ _⟩ ?_
  rintro i tt w1 ⟨⟨hi, hpre⟩, hx⟩
  refine wk_seq fun K1 hK1 => ?_
  refine wk_seq fun K2 hK2 => ?_
  refine wk_reg ?_
  by_cases hi1 : i < l.length
  · obtain ⟨b, o, rfl, hr⟩ := cell_at h rfl hi1
    repeat' (first | refine a_mov ?_ | refine a_asg ?_ | refine a_binN ?_ | refine a_notd ?_ | refine a_notb ?_ | refine a_nilc ?_ | refine a_fa ?_ | refine a_ext ?_ | refine a_lenv ?_ | refine a_lens ?_ | refine a_pick_t ?_ | refine a_pick_f ?_ | refine a_not ?_ | refine a_nilf ?_ | (refine a_bin ?_ ?_ <;> intro _ <;> try (exfalso; omega)) | refine a_ld hl ?_ | (refine a_st hl ?_; clear hl; intro _ hl) | refine a_ix (fun _ => ?_) | fail)
    refine o_nil (hK2 _ _ ?_)
    clear hK2 K2
    refine wk_cond_t rfl ?_
    refine wk_skip (hK1 _ _ ?_)
    clear hK1 K1
    refine wk_seq fun K1 hK1 => ?_
    refine wk_block ?_
    refine wk_seq fun K2 hK2 => ?_
    refine wk_reg ?_
    repeat' (first | refine a_mov ?_ | refine a_asg ?_ | refine a_binN ?_ | refine a_notd ?_ | refine a_notb ?_ | refine a_nilc ?_ | refine a_fa ?_ | refine a_ext ?_ | refine a_lenv ?_ | refine a_lens ?_ | refine a_pick_t ?_ | refine a_pick_f ?_ | refine a_not ?_ | refine a_nilf ?_ | (refine a_bin ?_ ?_ <;> intro _ <;> try (exfalso; omega)) | refine a_ld hl ?_ | (refine a_st hl ?_; clear hl; intro _ hl) | refine a_ix (fun _ => ?_) | refine a_idx (c := 1) i rfl ?_ | refine a_row (hr.ext hx) ?_ | fail)
    refine o_eqsT (a := l[i]) (b := t) rfl rfl rfl (fun he => ?_) (fun he => ?_)
    · refine o_nil (hK2 _ _ ?_)
      clear hK2 K2
      refine wk_cond_t rfl ?_
      refine wk_seq fun K2 hK2 => ?_
      refine wk_reg ?_
      refine a_asg ?_
      refine o_nil (hK2 _ _ ?_)
      refine wk_ret (retQ_tmp1 Tryz.results16 (by decide) rfl (by conv => lhs; whnf) ?_)
      refine ⟨?_, hx⟩
      rw [decide_eq_true (he ▸ List.getElem_mem hi1)]
    · refine o_nil (hK2 _ _ ?_)
      clear hK2 K2
      refine wk_cond_f rfl ?_
      refine wk_skip (hK1 _ _ ?_)
      clear hK1 K1
      refine wk_reg ?_
      repeat' (first | refine a_mov ?_ | refine a_asg ?_ | refine a_binN ?_ | refine a_notd ?_ | refine a_notb ?_ | refine a_nilc ?_ | refine a_fa ?_ | refine a_ext ?_ | refine a_lenv ?_ | refine a_lens ?_ | refine a_pick_t ?_ | refine a_pick_f ?_ | refine a_not ?_ | refine a_nilf ?_ | (refine a_bin ?_ ?_ <;> intro _ <;> try (exfalso; omega)) | refine a_ld hl ?_ | (refine a_st hl ?_; clear hl; intro _ hl) | refine a_ix (fun _ => ?_) | fail)
      refine o_nil ⟨i + 1, ⟨rfl, rfl, rfl, trivial⟩, rfl, ⟨⟨hi1, fun hm => ?_⟩, hx⟩, by omega⟩
      rw [List.take_succ_eq_append_getElem hi1] at hm
      rcases List.mem_append.1 hm with hm | hm
      · exact hpre hm
      · exact he (List.mem_singleton.1 hm).symm
  · obtain rfl : i = l.length := by omega
    rw [List.take_length] at hpre
    repeat' (first | refine a_mov ?_ | refine a_asg ?_ | refine a_binN ?_ | refine a_notd ?_ | refine a_notb ?_ | refine a_nilc ?_ | refine a_fa ?_ | refine a_ext ?_ | refine a_lenv ?_ | refine a_lens ?_ | refine a_pick_t ?_ | refine a_pick_f ?_ | refine a_not ?_ | refine a_nilf ?_ | (refine a_bin ?_ ?_ <;> intro _ <;> try (exfalso; omega)) | refine a_ld hl ?_ | (refine a_st hl ?_; clear hl; intro _ hl) | refine a_ix (fun _ => ?_) | fail)
    refine o_nil (hK2 _ _ ?_)
    clear hK2 K2
    refine wk_cond_f rfl ?_
    refine wk_exit ?_
    refine blockK_same ?_
    refine hK _ _ ?_
    clear hK1 K1
    clear hK K
    refine wk_seq fun K hK => ?_
    refine wk_reg ?_
    refine a_asg ?_
    refine o_nil (hK _ _ ?_)
    refine wk_ret (retQ_tmp1 Tryz.results16 (by decide) rfl (by conv => lhs; whnf) ?_)
    refine ⟨?_, hx⟩
    rw [decide_eq_false hpre]
mutual
theorem nms_len : ∀ (s : Sn) (acc : List Tx), (nms s acc).length ≤ acc.length + cnt s
  | .node o n d ks, acc => by
    simp only [nms, cnt]
    have h := nmsL_len ks (if o = 6 ∨ o = 7 then addT acc n else acc)
    have h2 : (if o = 6 ∨ o = 7 then addT acc n else acc).length ≤ acc.length + 1 := by
      split
      · unfold addT; split <;> simp
      · omega
    omega
theorem nmsL_len : ∀ (l : List Sn) (acc : List Tx), (nmsL l acc).length ≤ acc.length + cntL l
  | [], acc => by simp [nmsL, cntL]
  | k :: ks, acc => by
    simp only [nmsL, cntL]
    have h := nmsL_len ks (nms k acc)
    have h2 := nms_len k acc
    omega
end
theorem names_len (s : Sn) : (names s).length ≤ 200 := by
  unfold names
  split
  · rename_i hv
    have := ((valid_iff s).1 hv).1
    have := nms_len s []
    simp only [List.length_nil] at this
    omega
  · simp
theorem stuL_one (x : Stu) : (stuL x).all Value.oneCell' = true := by
  simp only [stuL, List.all_cons, List.all_nil, oneCell_str]
  rfl
set_option maxHeartbeats 8000000 in
theorem Names_calls {s : Sn} {E : Env} {x : Stu} {kv hv lv : Value} {w : World} (ht : Tabs w) (hs : SnIn w s kv) (hH : HapIn w E.h hv) (hL : StuIn w E.l lv) :
    Calls Tryz.prog 5 #[.agg (snL s kv).toArray, .int .i64 E.day, hv, .int .i64 E.known, lv, .agg (stuL x).toArray] w (fun e w' => ∃ v, e = .returned v ∧ v = .bool true ∧ Ext w w') := by
  obtain ⟨hk, hfit⟩ := hs
  obtain ⟨ka, kc, rfl, hkc⟩ := hk.shape
  obtain ⟨ha, hc, rfl, -⟩ := hH.1.shape (flat_length hapL_len E.h) (by omega)
  obtain ⟨la, lc, rfl, -⟩ := hL.1.shape (flat_length stuL_len E.l) (by omega)
  have hnl := names_len s
  have hnd := names_nodup s
  have hless := holds_less E s x
  generalize hN : names s = N at hnl hnd hless
  refine calls_of Tryz.func5 rfl Tryz.ntmps5 rfl ?_
  refine wk_seq fun K hK => ?_
  refine wk_reg ?_
  refine o_box (LH.start w (fun _ => False)) (snL s (.slice ka s.kids.length kc)) rfl rfl rfl ?_
  intro b6 w1 hb6 hl
  refine o_box hl (stuL x) rfl rfl rfl ?_
  clear hl
  intro b11 w2 hb11 hl
  have hx2 := hl.done
  have hr6 : Row w2 b6 0 (snL s (.slice ka s.kids.length kc)) := hl.rowL (vs := snL s (.slice ka s.kids.length kc)) 1 0 4 rfl
  have hr11 : Row w2 b11 0 (stuL x) := hl.rowL (vs := stuL x) 0 0 4 rfl
  clear hl
  refine a_asg ?_
  refine o_nil (hK _ _ ?_)
  clear hK K
  refine wk_seq fun K hK => ?_
  refine wk_reg ?_
  refine a_fn (head_calls (ht.ext hx2)) ?_
  rintro _ w3 ⟨rfl, hx3⟩
  refine a_asg ?_
  refine o_nil (hK _ _ ?_)
  clear hK K
  refine wk_seq fun K hK => ?_
  refine wk_seq fun K2 hK2 => ?_
  refine wk_reg ?_
  refine a_all (hr6.ext hx3) ?_
  refine a_mov ?_
  refine a_mov ?_
  refine a_fn (few_calls ((hk.ext hx2).ext hx3)) ?_
  rintro _ w4 ⟨bf, rfl, hfew, hx4⟩
  have hx34 := hx3.trans hx4
  replace hr6 := hr6.ext hx34
  replace hr11 := hr11.ext hx34
  have hx24 := hx2.trans hx34
  clear hx3 hx4 hx34 hx2
  refine a_notb ?_
  refine o_nil (hK2 _ _ ?_)
  clear hK2 K2
  cases bf
  · refine wk_cond_t rfl ?_
    refine wk_seq fun K2 hK2 => ?_
    refine wk_reg ?_
    repeat' (first | refine a_mov ?_ | refine a_asg ?_ | refine a_binN ?_ | refine a_notd ?_ | refine a_notb ?_ | refine a_nilc ?_ | refine a_fa ?_ | refine a_ext ?_ | refine a_lenv ?_ | refine a_lens ?_ | refine a_pick_t ?_ | refine a_pick_f ?_ | refine a_not ?_ | refine a_nilf ?_ | (refine a_bin ?_ ?_ <;> intro _ <;> try (exfalso; omega)) | refine a_ld hl ?_ | (refine a_st hl ?_; clear hl; intro _ hl) | refine a_ix (fun _ => ?_) | fail)
    refine o_nil (hK2 _ _ ?_)
    refine wk_ret (retQ_tmp1 Tryz.results5 (by decide) rfl (by conv => lhs; whnf) ?_)
    exact ⟨rfl, hx24⟩
  obtain ⟨hn1, hn2⟩ := hfew rfl
  refine wk_cond_f rfl ?_
  refine wk_skip (hK _ _ ?_)
  clear hK K hfew
  refine wk_seq fun K hK => ?_
  refine wk_reg ?_
  refine a_all hr6 ?_
  refine a_fn (names_calls (hk.ext hx24) hfit) ?_
  rintro nv w5 ⟨nacc, hln, hna⟩
  rw [hN] at hna
  have hNs : Sl w5 nv 1 (N.map str) := LH.acc_sl (l := []) hln hna
  have hx5 := hln.done
  clear hln hna
  replace hr6 := hr6.ext hx5
  replace hr11 := hr11.ext hx5
  replace hx24 := hx24.trans hx5
  clear hx5
  obtain ⟨na, nc, rfl, hnc⟩ := hNs.shape (strL_flat N) (by omega)
  refine a_asg ?_
  refine o_nil (hK _ _ ?_)
  clear hK K
  have hkw := hk.ext hx24
  have hHw := hH.1.ext hx24
  have hLw := hL.1.ext hx24
  have hll := hL.2.1
  clear hk hH hL ht
  refine wk_seq fun K hK => ?_
  refine wk_seq fun K2 hK2 => ?_
  refine wk_reg ?_
  refine a_asg ?_
  refine o_nil (hK2 _ _ ?_)
  clear hK2 K2
  refine wk_block ?_
  refine wk_loopH [] rfl (fun i : Nat => [(1, .int .i64 E.day), (2, .slice ha E.h.length hc), (3, .int .i64 E.known), (4, .slice la E.l.length lc), (6, .pointer (some ⟨b6, 0, none⟩)), (11, .pointer (some ⟨b11, 0, none⟩)), (13, .bool true), (14, .slice na N.length nc), (15, .int .i64 (i : Int))]) (fun i w' => i ≤ N.length ∧ Ext w5 w') (fun i => N.length - i) 0 ⟨rfl, rfl, rfl, rfl, rfl, rfl, rfl, rfl, rfl, trivial⟩ ⟨Nat.zero_le _, .refl _ _⟩ ?_
  rintro i t w6 ⟨hi, hx6⟩
  refine wk_seq fun K1 hK1 => ?_
  refine wk_seq fun K2 hK2 => ?_
  refine wk_reg ?_
  by_cases hi1 : i < N.length
  · obtain ⟨nb, no, rfl, hrn⟩ := cell_at hNs rfl hi1
    have hcut : ∀ w_, Ext w6 w_ → Sl w_ (.slice (some ⟨nb, no, none⟩) i nc) 1 ((N.take i).map str) := fun w_ hx => by
      have hs0 := (hNs.ext hx6).ext hx
      obtain ⟨b2, o2, e2, hr2⟩ := hs0.at (strL_flat N) (by omega) (by omega)
      cases e2
      refine .mk (by simp; omega) (by omega) fun j v hj => hr2 j v ?_
      rw [List.map_take, List.getElem?_take] at hj
      split at hj
      · exact hj
      · cases hj
    have hnot : N[i] ∉ N.take i := fun hm => by
      obtain ⟨j, hj, he⟩ := List.mem_iff_getElem.1 hm
      rw [List.getElem_take] at he
      have hjl : j < i := by simp at hj; omega
      have := (List.pairwise_iff_getElem.1 hnd) j i (by omega) hi1 hjl
      exact this he
    have hin : ∀ w_, Ext w6 w_ → Calls Tryz.prog 16 #[.slice (some ⟨nb, no, none⟩) i nc, str N[i]] w_ (fun e w' => ∃ v, e = .returned v ∧ v = .bool false ∧ Ext w_ w') := fun w_ hx => by
      refine Calls.mono (in_calls (l := N.take i) (t := N[i]) (hcut w_ hx) (by simp; omega)) ?_
      rintro e w' ⟨v, he, hv, hx⟩
      exact ⟨v, he, by rw [hv, decide_eq_false hnot], hx⟩
    repeat' (first | refine a_mov ?_ | refine a_asg ?_ | refine a_binN ?_ | refine a_notd ?_ | refine a_notb ?_ | refine a_nilc ?_ | refine a_fa ?_ | refine a_ext ?_ | refine a_lenv ?_ | refine a_lens ?_ | refine a_pick_t ?_ | refine a_pick_f ?_ | refine a_not ?_ | refine a_nilf ?_ | (refine a_bin ?_ ?_ <;> intro _ <;> try (exfalso; omega)) | refine a_ld hl ?_ | (refine a_st hl ?_; clear hl; intro _ hl) | refine a_ix (fun _ => ?_) | fail)
    refine o_nil (hK2 _ _ ?_)
    clear hK2 K2
    refine wk_cond_t rfl ?_
    refine wk_skip (hK1 _ _ ?_)
    clear hK1 K1
    refine wk_seq fun K1 hK1 => ?_
    refine wk_block ?_
    refine wk_seq fun K2 hK2 => ?_
    refine wk_quiet (List.range 8) ?_
    repeat' (first | refine q_mov ?_ | refine q_asg ?_ | refine q_fa ?_ | refine q_ext ?_ | refine q_binN ?_ | refine q_notd ?_ | refine q_notb ?_ | refine q_pick_t ?_ | refine q_pick_f ?_ | refine q_nilc ?_ | refine q_skip ?_ | refine q_lens ?_ | refine q_lenv ?_ | refine q_nil ?_ | refine q_ix (fun _ => ?_) | (refine q_bin ?_ ?_ <;> intro _ <;> try (exfalso; omega)) | refine q_pur rfl rfl rfl (fun _ => r_cutvS (k := 1) (a := i) rfl rfl (by omega) (by omega) (by omega) rfl rfl) ?_ | refine q_idx (c := 1) i rfl ?_ | refine q_row (fun w_ hw_ => (hrn.ext hx6).ext hw_) ?_)
    refine q_fn hin ?_
    refine q_nil ?_
    intro w7 hx7
    refine hK2 _ _ ?_
    clear hK2 K2
    refine wk_cond_f rfl ?_
    refine wk_skip (hK1 _ _ ?_)
    clear hK1 K1
    refine wk_reg ?_
    repeat' (first | refine a_mov ?_ | refine a_asg ?_ | refine a_binN ?_ | refine a_notd ?_ | refine a_notb ?_ | refine a_nilc ?_ | refine a_fa ?_ | refine a_ext ?_ | refine a_lenv ?_ | refine a_lens ?_ | refine a_pick_t ?_ | refine a_pick_f ?_ | refine a_not ?_ | refine a_nilf ?_ | (refine a_bin ?_ ?_ <;> intro _ <;> try (exfalso; omega)) | refine a_ld hl ?_ | (refine a_st hl ?_; clear hl; intro _ hl) | refine a_ix (fun _ => ?_) | fail)
    exact o_nil ⟨i + 1, ⟨rfl, rfl, rfl, rfl, rfl, rfl, rfl, rfl, rfl, trivial⟩, rfl, ⟨hi1, hx6.trans hx7⟩, by omega⟩
  · obtain rfl : i = N.length := by omega
    repeat' (first | refine a_mov ?_ | refine a_asg ?_ | refine a_binN ?_ | refine a_notd ?_ | refine a_notb ?_ | refine a_nilc ?_ | refine a_fa ?_ | refine a_ext ?_ | refine a_lenv ?_ | refine a_lens ?_ | refine a_pick_t ?_ | refine a_pick_f ?_ | refine a_not ?_ | refine a_nilf ?_ | (refine a_bin ?_ ?_ <;> intro _ <;> try (exfalso; omega)) | refine a_ld hl ?_ | (refine a_st hl ?_; clear hl; intro _ hl) | refine a_ix (fun _ => ?_) | fail)
    refine o_nil (hK2 _ _ ?_)
    clear hK2 K2
    refine wk_cond_f rfl ?_
    refine wk_exit ?_
    refine blockK_same ?_
    refine hK _ _ ?_
    clear hK1 K1
    clear hK K
    replace hr6 := hr6.ext hx6
    replace hr11 := hr11.ext hx6
    replace hx24 := hx24.trans hx6
    replace hkw := hkw.ext hx6
    replace hHw := hHw.ext hx6
    replace hLw := hLw.ext hx6
    replace hNs := hNs.ext hx6
    clear hx6 hnd
    have hLat : ∀ (j : Nat) (hj : j < E.l.length), ∃ b o, la = some ⟨b, o, none⟩ ∧ Row w6 b (o + j * 4) (stuL E.l[j]) := fun j hj => by
      obtain ⟨b, o, rfl, hr⟩ := hLw.at (flat_length stuL_len E.l) (by omega) (by omega)
      exact ⟨b, o, rfl, hr.elem stuL_len (k := j) (t := E.l[j]) (by simp [hj])⟩
    refine wk_seq fun K hK => ?_
    refine wk_reg ?_
    refine a_asg ?_
    refine o_nil (hK _ _ ?_)
    clear hK K
    refine wk_seq fun K hK => ?_
    refine wk_seq fun K2 hK2 => ?_
    refine wk_reg ?_
    refine a_asg ?_
    refine o_nil (hK2 _ _ ?_)
    clear hK2 K2
    refine wk_block ?_
    refine wk_loopH [] rfl (fun q : Nat × List Stu × Value × List (Nat × Obj) => [(1, .int .i64 E.day), (2, .slice ha E.h.length hc), (3, .int .i64 E.known), (4, .slice la E.l.length lc), (6, .pointer (some ⟨b6, 0, none⟩)), (11, .pointer (some ⟨b11, 0, none⟩)), (13, .bool true), (14, .slice na N.length nc), (16, q.2.2.1), (17, .int .i64 (q.1 : Int))]) (fun q w' => (q.1 ≤ E.l.length ∧ q.2.1 = (E.l.take q.1).filter fun y => decide (y.id ∈ N)) ∧ LH w6 (fun _ => False) w' q.2.2.2 ∧ Acc q.2.2.1 4 41 q.2.1.length (q.2.1.flatMap stuL) q.2.2.2) (fun q => E.l.length - q.1) (0, [], .slice none 0 0, []) ⟨rfl, rfl, rfl, rfl, rfl, rfl, rfl, rfl, rfl, rfl, trivial⟩ ⟨⟨Nat.zero_le _, rfl⟩, LH.start w6 _, Acc.nil _ _⟩ ?_
    rintro ⟨j, L, v, acc⟩ t w7 ⟨⟨hj, hLe⟩, hl, hacc⟩
    simp only at hj hLe hl hacc
    have hLl : L.length ≤ j := by
      rw [hLe]
      exact Nat.le_trans (List.length_filter_le _ _) (by simp; omega)
    refine wk_seq fun K1 hK1 => ?_
    refine wk_seq fun K2 hK2 => ?_
    refine wk_reg ?_
    by_cases hj1 : j < E.l.length
    · obtain ⟨lb, lo, rfl, hrl0⟩ := hLat j hj1
      have hrl := hrl0.ext hl.done
      have htk := List.take_succ_eq_append_getElem hj1
      generalize E.l[j] = y at hrl hrl0 htk
      repeat' (first | refine a_mov ?_ | refine a_asg ?_ | refine a_binN ?_ | refine a_notd ?_ | refine a_notb ?_ | refine a_nilc ?_ | refine a_fa ?_ | refine a_ext ?_ | refine a_lenv ?_ | refine a_lens ?_ | refine a_pick_t ?_ | refine a_pick_f ?_ | refine a_not ?_ | refine a_nilf ?_ | (refine a_bin ?_ ?_ <;> intro _ <;> try (exfalso; omega)) | refine a_ld hl ?_ | (refine a_st hl ?_; clear hl; intro _ hl) | refine a_ix (fun _ => ?_) | fail)
      refine o_nil (hK2 _ _ ?_)
      clear hK2 K2
      refine wk_cond_t rfl ?_
      refine wk_skip (hK1 _ _ ?_)
      clear hK1 K1
      refine wk_seq fun K1 hK1 => ?_
      refine wk_block ?_
      refine wk_seq fun K2 hK2 => ?_
      refine wk_reg ?_
      repeat' (first | refine a_mov ?_ | refine a_asg ?_ | refine a_binN ?_ | refine a_notd ?_ | refine a_notb ?_ | refine a_nilc ?_ | refine a_fa ?_ | refine a_ext ?_ | refine a_lenv ?_ | refine a_lens ?_ | refine a_pick_t ?_ | refine a_pick_f ?_ | refine a_not ?_ | refine a_nilf ?_ | (refine a_bin ?_ ?_ <;> intro _ <;> try (exfalso; omega)) | refine a_ld hl ?_ | (refine a_st hl ?_; clear hl; intro _ hl) | refine a_ix (fun _ => ?_) | refine a_idx (c := 4) j rfl ?_ | refine a_row hrl ?_ | fail)
      refine a_fn (in_calls (l := N) (t := y.id) (hNs.ext hl.done) (by omega)) ?_
      rintro _ w8 ⟨rfl, hx8⟩
      replace hl := hl.ext hx8
      refine o_nil (hK2 _ _ ?_)
      clear hK2 K2
      by_cases hin : y.id ∈ N
      · rw [decide_eq_true hin]
        refine wk_cond_t rfl ?_
        refine wk_reg ?_
        repeat' (first | refine a_mov ?_ | refine a_asg ?_ | refine a_binN ?_ | refine a_notd ?_ | refine a_notb ?_ | refine a_nilc ?_ | refine a_fa ?_ | refine a_ext ?_ | refine a_lenv ?_ | refine a_lens ?_ | refine a_pick_t ?_ | refine a_pick_f ?_ | refine a_not ?_ | refine a_nilf ?_ | (refine a_bin ?_ ?_ <;> intro _ <;> try (exfalso; omega)) | refine a_ld hl ?_ | (refine a_st hl ?_; clear hl; intro _ hl) | refine a_ix (fun _ => ?_) | refine a_idx (c := 4) j rfl ?_ | refine a_all (hrl.ext hx8) ?_ | fail)
        refine o_buildSlice hl (stuL y) rfl rfl (by kernel_rfl) ?_
        clear hl
        intro bq w9 hbq hl
        refine o_append (us := stuL y) (bl' := [(bq, _)]) (bytes := 40) (q := 1) hl hacc (hl.rowL (vs := stuL y) 0 0 4 rfl) rfl (stuL_one y) (by decide) (by omega) (by omega) rfl rfl (by kernel_rfl) rfl rfl ?_
        clear hl
        intro v' w10 acc' hl hacc'
        refine a_asg ?_
        refine o_nil (hK1 _ _ ?_)
        clear hK1 K1
        refine wk_reg ?_
        repeat' (first | refine a_mov ?_ | refine a_asg ?_ | refine a_binN ?_ | refine a_notd ?_ | refine a_notb ?_ | refine a_nilc ?_ | refine a_fa ?_ | refine a_ext ?_ | refine a_lenv ?_ | refine a_lens ?_ | refine a_pick_t ?_ | refine a_pick_f ?_ | refine a_not ?_ | refine a_nilf ?_ | (refine a_bin ?_ ?_ <;> intro _ <;> try (exfalso; omega)) | refine a_ld hl ?_ | (refine a_st hl ?_; clear hl; intro _ hl) | refine a_ix (fun _ => ?_) | fail)
        refine o_nil ⟨(j + 1, L ++ [y], v', acc'), ⟨rfl, rfl, rfl, rfl, rfl, rfl, rfl, rfl, rfl, rfl, trivial⟩, rfl, ⟨⟨hj1, ?_⟩, hl.sub (List.sublist_cons_self _ _), ?_⟩, by simp only; omega⟩
        · simp only
          rw [htk, List.filter_append, ← hLe, List.filter_cons, decide_eq_true hin]
          rfl
        · simp only
          rw [List.flatMap_append, List.length_append]
          simpa [stuL_len] using hacc'
      · rw [decide_eq_false hin]
        refine wk_cond_f rfl ?_
        refine wk_skip (hK1 _ _ ?_)
        clear hK1 K1
        refine wk_reg ?_
        repeat' (first | refine a_mov ?_ | refine a_asg ?_ | refine a_binN ?_ | refine a_notd ?_ | refine a_notb ?_ | refine a_nilc ?_ | refine a_fa ?_ | refine a_ext ?_ | refine a_lenv ?_ | refine a_lens ?_ | refine a_pick_t ?_ | refine a_pick_f ?_ | refine a_not ?_ | refine a_nilf ?_ | (refine a_bin ?_ ?_ <;> intro _ <;> try (exfalso; omega)) | refine a_ld hl ?_ | (refine a_st hl ?_; clear hl; intro _ hl) | refine a_ix (fun _ => ?_) | fail)
        refine o_nil ⟨(j + 1, L, v, acc), ⟨rfl, rfl, rfl, rfl, rfl, rfl, rfl, rfl, rfl, rfl, trivial⟩, rfl, ⟨⟨hj1, ?_⟩, hl, hacc⟩, by simp only; omega⟩
        simp only
        rw [htk, List.filter_append, ← hLe, List.filter_cons, decide_eq_false hin]
        simp
    · obtain rfl : j = E.l.length := by omega
      rw [List.take_length] at hLe
      repeat' (first | refine a_mov ?_ | refine a_asg ?_ | refine a_binN ?_ | refine a_notd ?_ | refine a_notb ?_ | refine a_nilc ?_ | refine a_fa ?_ | refine a_ext ?_ | refine a_lenv ?_ | refine a_lens ?_ | refine a_pick_t ?_ | refine a_pick_f ?_ | refine a_not ?_ | refine a_nilf ?_ | (refine a_bin ?_ ?_ <;> intro _ <;> try (exfalso; omega)) | refine a_ld hl ?_ | (refine a_st hl ?_; clear hl; intro _ hl) | refine a_ix (fun _ => ?_) | fail)
      refine o_nil (hK2 _ _ ?_)
      clear hK2 K2
      refine wk_cond_f rfl ?_
      refine wk_exit ?_
      refine blockK_same ?_
      refine hK _ _ ?_
      clear hK1 K1
      clear hK K
      refine wk_seq fun K hK => ?_
      refine wk_cut [] (fun q : Value × List (Nat × Obj) => [(1, .int .i64 E.day), (2, .slice ha E.h.length hc), (3, .int .i64 E.known), (4, .slice la E.l.length lc), (6, .pointer (some ⟨b6, 0, none⟩)), (13, .bool true), (16, q.1)]) (fun q w' => LH w6 (fun _ => False) w' q.2 ∧ Acc q.1 4 41 (lessL N E.l x).length ((lessL N E.l x).flatMap stuL) q.2) ?_ ?_
      · refine wk_seq fun K2 hK2 => ?_
        refine wk_reg ?_
        repeat' (first | refine a_mov ?_ | refine a_asg ?_ | refine a_binN ?_ | refine a_notd ?_ | refine a_notb ?_ | refine a_nilc ?_ | refine a_fa ?_ | refine a_ext ?_ | refine a_lenv ?_ | refine a_lens ?_ | refine a_pick_t ?_ | refine a_pick_f ?_ | refine a_not ?_ | refine a_nilf ?_ | (refine a_bin ?_ ?_ <;> intro _ <;> try (exfalso; omega)) | refine a_ld hl ?_ | (refine a_st hl ?_; clear hl; intro _ hl) | refine a_ix (fun _ => ?_) | refine a_row (hr11.ext hl.done) ?_ | fail)
        refine a_fn (in_calls (l := N) (t := x.id) (hNs.ext hl.done) (by omega)) ?_
        rintro _ w8 ⟨rfl, hx8⟩
        replace hl := hl.ext hx8
        refine a_notb ?_
        refine o_nil (hK2 _ _ ?_)
        clear hK2 K2
        by_cases hin : x.id ∈ N
        · rw [decide_eq_true hin]
          refine wk_cond_f rfl ?_
          refine wk_skip ⟨(v, acc), ⟨rfl, rfl, rfl, rfl, rfl, rfl, rfl, trivial⟩, rfl, hl, ?_⟩
          have e : lessL N E.l x = L := by unfold lessL; rw [← hLe, if_pos hin, List.append_nil]
          rw [e]
          exact hacc
        · rw [decide_eq_false hin]
          refine wk_cond_t rfl ?_
          refine wk_reg ?_
          refine a_mov ?_
          refine a_all (hr11.ext hl.done) ?_
          refine o_buildSlice hl (stuL x) rfl rfl (by kernel_rfl) ?_
          clear hl
          intro bq w9 hbq hl
          refine o_append (us := stuL x) (bl' := [(bq, _)]) (bytes := 40) (q := 1) hl hacc (hl.rowL (vs := stuL x) 0 0 4 rfl) rfl (stuL_one x) (by decide) (by omega) (by omega) rfl rfl (by kernel_rfl) rfl rfl ?_
          clear hl
          intro v' w10 acc' hl hacc'
          refine a_asg ?_
          refine o_nil ⟨(v', acc'), ⟨rfl, rfl, rfl, rfl, rfl, rfl, rfl, trivial⟩, rfl, hl.sub (List.sublist_cons_self _ _), ?_⟩
          have e : lessL N E.l x = L ++ [x] := by unfold lessL; rw [← hLe, if_neg hin]
          simp only
          rw [e, List.flatMap_append, List.length_append]
          simpa [stuL_len] using hacc'
      · clear hl hacc
        rintro ⟨v', acc'⟩ t w8 ⟨hl, hacc⟩
        simp only at hl hacc
        have hl2 : (lessL N E.l x).length ≤ 31 := by
          unfold lessL
          rw [List.length_append, ← hLe]
          split <;> simp <;> omega
        have hLs : Sl w8 v' 4 ((lessL N E.l x).flatMap stuL) := LH.acc_sl (l := []) hl hacc
        have hx8 := hl.done
        obtain ⟨va, vc, rfl⟩ := hacc.shape
        refine hK _ _ ?_
        clear hK K
        have hc1 : ∀ w_, Ext w8 w_ → Calls Tryz.prog 14 #[.agg (snL s (.slice ka s.kids.length kc)).toArray, .int .i64 E.day, .slice ha E.h.length hc, .int .i64 E.known, .slice la E.l.length lc] w_ (fun e w' => ∃ v, e = .returned v ∧ v = .bool (holds E s) ∧ Ext w_ w') := fun w_ hx => holds_calls (E := E) ((hkw.ext hx8).ext hx) hfit ((hHw.ext hx8).ext hx) ((hLw.ext hx8).ext hx) (by omega) (by omega)
        have hc2 : ∀ w_, Ext w8 w_ → Calls Tryz.prog 14 #[.agg (snL s (.slice ka s.kids.length kc)).toArray, .int .i64 E.day, .slice ha E.h.length hc, .int .i64 E.known, .slice va (lessL N E.l x).length vc] w_ (fun e w' => ∃ v, e = .returned v ∧ v = .bool (holds E s) ∧ Ext w_ w') := fun w_ hx => by
          rw [hless]
          exact holds_calls (E := { E with l := lessL N E.l x }) ((hkw.ext hx8).ext hx) hfit ((hHw.ext hx8).ext hx) (hLs.ext hx) (by simp only; omega) (by simp only; omega)
        refine wk_seq fun K hK => ?_
        refine wk_quiet (List.range 17) ?_
        repeat' (first | refine q_mov ?_ | refine q_asg ?_ | refine q_fa ?_ | refine q_ext ?_ | refine q_binN ?_ | refine q_notd ?_ | refine q_notb ?_ | refine q_pick_t ?_ | refine q_pick_f ?_ | refine q_nilc ?_ | refine q_skip ?_ | refine q_lens ?_ | refine q_lenv ?_ | refine q_nil ?_ | refine q_ix (fun _ => ?_) | (refine q_bin ?_ ?_ <;> intro _ <;> try (exfalso; omega)) | refine q_all (fun w_ hw_ => (hr6.ext hx8).ext hw_) ?_ | fail)
        refine q_fn hc1 ?_
        repeat' (first | refine q_mov ?_ | refine q_asg ?_ | refine q_fa ?_ | refine q_ext ?_ | refine q_binN ?_ | refine q_notd ?_ | refine q_notb ?_ | refine q_pick_t ?_ | refine q_pick_f ?_ | refine q_nilc ?_ | refine q_skip ?_ | refine q_lens ?_ | refine q_lenv ?_ | refine q_nil ?_ | refine q_ix (fun _ => ?_) | (refine q_bin ?_ ?_ <;> intro _ <;> try (exfalso; omega)) | refine q_all (fun w_ hw_ => (hr6.ext hx8).ext hw_) ?_ | fail)
        refine q_fn hc2 ?_
        refine q_pur rfl rfl rfl (fun _ => r_eqB rfl rfl rfl) ?_
        rw [show (holds E s == holds E s) = true by simp]
        repeat' (first | refine q_mov ?_ | refine q_asg ?_ | refine q_fa ?_ | refine q_ext ?_ | refine q_binN ?_ | refine q_notd ?_ | refine q_notb ?_ | refine q_pick_t ?_ | refine q_pick_f ?_ | refine q_nilc ?_ | refine q_skip ?_ | refine q_lens ?_ | refine q_lenv ?_ | refine q_nil ?_ | refine q_ix (fun _ => ?_) | (refine q_bin ?_ ?_ <;> intro _ <;> try (exfalso; omega)) | fail)
        intro w9 hx9
        refine hK _ _ ?_
        clear hK K
        refine wk_ret (retQ_tmp1 Tryz.results5 (by decide) rfl (by conv => lhs; whnf) ?_)
        exact ⟨rfl, (hx24.trans hx8).trans hx9⟩
end Go.Proofs
