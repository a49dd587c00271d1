/-
  The reference: names.
-/
import Derived.Test.YtebaoilkpedppaaGreatDoorQStRe
import Derived.Test.YtebaoilkpedppaaGreatDoorQSC
set_option linter.unusedVariables false
set_option linter.unusedSimpArgs false
set_option linter.unnecessarySimpa false
set_option maxRecDepth 10000
namespace Go.Proofs
open Go Go.Pd Go.Sta
attribute [local irreducible] OpsL W RetQ OpsQ OpsC
set_option maxHeartbeats 4000000 in
theorem namesIn_calls : ∀ (s : Sn) (w0 w : World) (M G : Nat → Prop) (kv v : Value) (acc : List (Nat × Obj)) (ts : List Tx), (∀ b, G b → ¬ M b ∧ b < w0.heap.size) → okB s = true → fitS s → KR w0 G s.kids kv → LH w0 M w acc → Acc v 1 9 ts.length (strL ts) acc → ts.length + cnt s ≤ 1000000 →
    Calls Tryz.prog 44 #[.agg (snL s kv).toArray, v] w (fun e w' => ∃ v', e = .returned v' ∧ ∃ acc', LH w0 M w' acc' ∧ Acc v' 1 9 (nms s ts).length (strL (nms s ts)) acc') := Sn.ind fun s ih => by
  intro w0 w M G kv v acc ts hG hokS hfit hk hl0 hacc hcnt
  obtain ⟨ka, kc, rfl, -⟩ := hk.shape
  obtain ⟨hf1, hf2, hkf⟩ := (fitS_eq s).1 hfit
  have hce := cnt_eq s
  have hne := nms_eq s ts
  have hok : ∀ k ∈ s.kids, okB k = true := by
    have := okB_eq s
    rw [hokS, okL_all] at this
    have h2 := this.symm
    rw [Bool.and_eq_true, List.all_eq_true] at h2
    exact h2.2
  have hkw := hk.upd hl0.upd fun b hb => (hG b hb).1
  obtain ⟨oa, oc, rfl⟩ := hacc.shape
  refine calls_of Tryz.func44 rfl Tryz.ntmps44 rfl ?_
  refine wk_seq fun K hK => ?_
  refine wk_reg ?_
  refine o_box hl0 (snL s (.slice ka s.kids.length kc)) rfl rfl rfl ?_
  intro b2 w1 hb2 hl
  have hl : LH w0 M w1 ((b2, .cells (snL s (.slice ka s.kids.length kc)).toArray 24 (0, 0)) :: acc) := hl
  have hr : Row w1 b2 0 (snL s (.slice ka s.kids.length kc)) := hl.rowL (vs := snL s (.slice ka s.kids.length kc)) 0 0 4 rfl
  have hsl : Sl w1 (.slice oa ts.length oc) 1 (strL ts) := LH.acc_sl (l := [_]) hl hacc
  have hnd : b2 ∉ acc.map (·.1) := by
    have := hl.nd
    simp only [List.map_cons, List.nodup_cons] at this
    exact this.1
  have hk1 := hk.upd hl.upd fun b hb => (hG b hb).1
  refine a_asg ?_
  refine o_nil (hK _ _ ?_)
  clear hK K
  refine wk_seq fun K hK => ?_
  refine wk_seq fun K2 hK2 => ?_
  refine wk_reg ?_
  by_cases hop : s.op = 6 ∨ s.op = 7
  · have hnk : s.kids = [] := by
      rcases node_cases hokS with ⟨h, -⟩ | ⟨h, h2, h3, -, h5, -⟩ | ⟨h1, h2, -, h4, -⟩ | ⟨h, -⟩
      · omega
      · exact h5
      · exact h4
      · omega
    rw [if_pos hop, hnk] at hne
    simp only [nmsL] at hne
    repeat' (first | refine a_mov ?_ | refine a_asg ?_ | refine a_binN ?_ | refine a_notd ?_ | refine a_notb ?_ | refine a_nilc ?_ | refine a_fa ?_ | refine a_ext ?_ | refine a_lenv ?_ | refine a_lens ?_ | refine a_pick_t ?_ | refine a_pick_f ?_ | refine a_not ?_ | refine a_nilf ?_ | (refine a_bin ?_ ?_ <;> intro _ <;> try (exfalso; omega)) | refine a_ld hl ?_ | (refine a_st hl ?_; clear hl; intro _ hl) | refine a_ix (fun _ => ?_) | refine a_row hr ?_ | fail)
    all_goals
      refine o_nil (hK2 _ _ ?_)
      clear hK2 K2
      refine wk_cond_t rfl ?_
      refine wk_seq fun K2 hK2 => ?_
      refine wk_seq fun K3 hK3 => ?_
      refine wk_reg ?_
      refine a_asg ?_
      refine o_nil (hK3 _ _ ?_)
      clear hK3 K3
      refine wk_block ?_
      refine wk_loopH [] rfl (fun i : Nat => [(1, .slice oa ts.length oc), (2, .pointer (some ⟨b2, 0, none⟩)), (5, .int .i64 (i : Int))]) (fun i w' => (i ≤ ts.length ∧ ∀ t ∈ ts.take i, t ≠ s.name) ∧ Ext w1 w') (fun i => ts.length - i) 0 ⟨rfl, rfl, rfl, trivial⟩ ⟨⟨Nat.zero_le _, by simp⟩, .refl _ _⟩ ?_
      rintro i t w2 ⟨⟨hi, hpre⟩, hx⟩
      refine wk_seq fun K1 hK1 => ?_
      refine wk_seq fun K3 hK3 => ?_
      refine wk_reg ?_
      by_cases hi1 : i < ts.length
      · obtain ⟨b, o, rfl, hrs⟩ := (hsl.ext hx).at (strL_len ts) (by omega) (by omega)
        have hcell : Row w2 b (o + i * 1) [str ts[i]] := fun j v hj => by
          cases j with
          | zero =>
            have := hrs i (str ts[i]) (by simp [hi1])
            simp at hj
            rw [← hj]
            simpa using this
          | succ j => simp at hj
        repeat' (first | refine a_mov ?_ | refine a_asg ?_ | refine a_binN ?_ | refine a_notd ?_ | refine a_notb ?_ | refine a_nilc ?_ | refine a_fa ?_ | refine a_ext ?_ | refine a_lenv ?_ | refine a_lens ?_ | refine a_pick_t ?_ | refine a_pick_f ?_ | refine a_not ?_ | refine a_nilf ?_ | (refine a_bin ?_ ?_ <;> intro _ <;> try (exfalso; omega)) | refine a_ld hl ?_ | (refine a_st hl ?_; clear hl; intro _ hl) | refine a_ix (fun _ => ?_) | fail)
        refine o_nil (hK3 _ _ ?_)
        clear hK3 K3
        refine wk_cond_t rfl ?_
        refine wk_skip (hK1 _ _ ?_)
        clear hK1 K1
        refine wk_seq fun K1 hK1 => ?_
        refine wk_block ?_
        refine wk_seq fun K3 hK3 => ?_
        obtain ⟨q, hq⟩ : ∃ q, q = decide (ts[i] = s.name) := ⟨_, rfl⟩
        refine wk_quiet (List.range 7) ?_
        repeat' (first | refine q_mov ?_ | refine q_asg ?_ | refine q_fa ?_ | refine q_ext ?_ | refine q_binN ?_ | refine q_notd ?_ | refine q_notb ?_ | refine q_pick_t ?_ | refine q_pick_f ?_ | refine q_nilc ?_ | refine q_skip ?_ | refine q_lens ?_ | refine q_lenv ?_ | refine q_nil ?_ | refine q_ix (fun _ => ?_) | (refine q_bin ?_ ?_ <;> intro _ <;> try (exfalso; omega)) | refine q_idx (c := 1) i rfl ?_ | refine q_row (fun w_ hw_ => hcell.ext hw_) ?_ | refine q_row (fun w_ hw_ => (hr.ext hx).ext hw_) ?_ | refine q_pur rfl rfl rfl (fun _ => (r_eqs (a := ts[i]) (b := s.name) rfl rfl).trans (by rw [← hq])) ?_)
        intro w3 hx3
        refine hK3 _ _ ?_
        clear hK3 K3
        cases q
        · have hn : ts[i] ≠ s.name := by simpa using hq.symm
          refine wk_cond_f rfl ?_
          refine wk_skip (hK1 _ _ ?_)
          clear hK1 K1
          refine wk_reg ?_
          repeat' (first | refine a_mov ?_ | refine a_asg ?_ | refine a_binN ?_ | refine a_notd ?_ | refine a_notb ?_ | refine a_nilc ?_ | refine a_fa ?_ | refine a_ext ?_ | refine a_lenv ?_ | refine a_lens ?_ | refine a_pick_t ?_ | refine a_pick_f ?_ | refine a_not ?_ | refine a_nilf ?_ | (refine a_bin ?_ ?_ <;> intro _ <;> try (exfalso; omega)) | refine a_ld hl ?_ | (refine a_st hl ?_; clear hl; intro _ hl) | refine a_ix (fun _ => ?_) | fail)
          refine o_nil ⟨i + 1, ⟨rfl, rfl, rfl, trivial⟩, rfl, ⟨⟨hi1, fun t ht => ?_⟩, hx.trans hx3⟩, by omega⟩
          rw [List.take_succ_eq_append_getElem hi1] at ht
          rcases List.mem_append.1 ht with ht | ht
          · exact hpre t ht
          · rw [List.mem_singleton.1 ht]; exact hn
        · have he : ts[i] = s.name := by simpa using hq.symm
          refine wk_cond_t rfl ?_
          refine wk_seq fun K3 hK3 => ?_
          refine wk_reg ?_
          repeat' (first | refine a_mov ?_ | refine a_asg ?_ | refine a_binN ?_ | refine a_notd ?_ | refine a_notb ?_ | refine a_nilc ?_ | refine a_fa ?_ | refine a_ext ?_ | refine a_lenv ?_ | refine a_lens ?_ | refine a_pick_t ?_ | refine a_pick_f ?_ | refine a_not ?_ | refine a_nilf ?_ | (refine a_bin ?_ ?_ <;> intro _ <;> try (exfalso; omega)) | refine a_ld hl ?_ | (refine a_st hl ?_; clear hl; intro _ hl) | refine a_ix (fun _ => ?_) | fail)
          refine o_nil (hK3 _ _ ?_)
          refine wk_ret (retQ_tmp1 Tryz.results44 (by decide) rfl (by conv => lhs; whnf) ?_)
          have hin : s.name ∈ ts := he ▸ List.getElem_mem hi1
          rw [hne, show addT ts s.name = ts from if_pos hin]
          exact ⟨acc, ((hl.sub (List.sublist_cons_self _ _)).ext hx).ext hx3, hacc⟩
      · obtain rfl : i = ts.length := by omega
        rw [List.take_length] at hpre
        have hin : s.name ∉ ts := fun h => hpre _ h rfl
        repeat' (first | refine a_mov ?_ | refine a_asg ?_ | refine a_binN ?_ | refine a_notd ?_ | refine a_notb ?_ | refine a_nilc ?_ | refine a_fa ?_ | refine a_ext ?_ | refine a_lenv ?_ | refine a_lens ?_ | refine a_pick_t ?_ | refine a_pick_f ?_ | refine a_not ?_ | refine a_nilf ?_ | (refine a_bin ?_ ?_ <;> intro _ <;> try (exfalso; omega)) | refine a_ld hl ?_ | (refine a_st hl ?_; clear hl; intro _ hl) | refine a_ix (fun _ => ?_) | fail)
        refine o_nil (hK3 _ _ ?_)
        clear hK3 K3
        refine wk_cond_f rfl ?_
        refine wk_exit ?_
        refine blockK_same ?_
        refine hK2 _ _ ?_
        clear hK1 K1 hK2 K2
        refine wk_seq fun K2 hK2 => ?_
        refine wk_reg ?_
        have hl2 := hl.ext hx
        repeat' (first | refine a_mov ?_ | refine a_asg ?_ | refine a_binN ?_ | refine a_notd ?_ | refine a_notb ?_ | refine a_nilc ?_ | refine a_fa ?_ | refine a_ext ?_ | refine a_lenv ?_ | refine a_lens ?_ | refine a_pick_t ?_ | refine a_pick_f ?_ | refine a_not ?_ | refine a_nilf ?_ | (refine a_bin ?_ ?_ <;> intro _ <;> try (exfalso; omega)) | refine a_ld hl ?_ | (refine a_st hl ?_; clear hl; intro _ hl) | refine a_ix (fun _ => ?_) | refine a_row (hr.ext hx) ?_ | fail)
        refine o_buildSlice hl2 [str s.name] rfl rfl (by simp only [str_eq]; kernel_rfl) ?_
        intro b6 w6 hb6 hl6
        refine o_append (bl' := (b6, .cells [str s.name].toArray 9 (0, 0)) :: (b2, .cells (snL s (.slice ka s.kids.length kc)).toArray 24 (0, 0)) :: []) (k := 1) (bytes := 16) (q := 1) (us := [str s.name]) hl6 hacc (hl6.rowL (vs := [str s.name]) 0 0 1 rfl) rfl (by simp [oneCell_str]) (by omega) (by omega) (by omega) rfl rfl rfl rfl rfl ?_
        clear hl6
        intro ov' w7 acc' hl7 hacc'
        obtain ⟨xa, xc, rfl⟩ := hacc'.shape
        refine a_asg ?_
        refine o_nil (hK2 _ _ ?_)
        refine wk_ret (retQ_tmp1 Tryz.results44 (by decide) rfl (by conv => lhs; whnf) ?_)
        rw [hne, show addT ts s.name = ts ++ [s.name] from if_neg hin, List.length_append, strL, List.map_append]
        exact ⟨acc', hl7.sub ((List.sublist_cons_self _ _).trans (List.sublist_cons_self _ _)), hacc'⟩
  · rw [if_neg hop] at hne
    repeat' (first | refine a_mov ?_ | refine a_asg ?_ | refine a_binN ?_ | refine a_notd ?_ | refine a_notb ?_ | refine a_nilc ?_ | refine a_fa ?_ | refine a_ext ?_ | refine a_lenv ?_ | refine a_lens ?_ | refine a_pick_t ?_ | refine a_pick_f ?_ | refine a_not ?_ | refine a_nilf ?_ | (refine a_bin ?_ ?_ <;> intro _ <;> try (exfalso; omega)) | refine a_ld hl ?_ | (refine a_st hl ?_; clear hl; intro _ hl) | refine a_ix (fun _ => ?_) | refine a_row hr ?_ | fail)
    refine o_nil (hK2 _ _ ?_)
    clear hK2 K2
    refine wk_cond_f rfl ?_
    refine wk_skip (hK _ _ ?_)
    clear hK K
    refine wk_seq fun K hK => ?_
    refine wk_seq fun K2 hK2 => ?_
    refine wk_reg ?_
    refine a_asg ?_
    refine o_nil (hK2 _ _ ?_)
    clear hK2 K2
    have hlt := hl.sub (List.sublist_cons_self _ _)
    have hG1 : ∀ b, G b → ¬ (b ∈ acc.map (·.1)) ∧ b < w1.heap.size := fun b hb => by
      have h1 := hG b hb
      refine ⟨fun hm => ?_, Nat.lt_of_lt_of_le h1.2 hl.upd.size⟩
      rcases hlt.id hm with h | h
      · omega
      · exact h1.1 h
    refine wk_block ?_
    refine wk_loopH [] rfl (fun q : Nat × Value × List (Nat × Obj) => [(1, q.2.1), (2, .pointer (some ⟨b2, 0, none⟩)), (6, .int .i64 (q.1 : Int))]) (fun q w' => q.1 ≤ s.kids.length ∧ LH w1 (fun b => b ∈ acc.map (·.1)) w' q.2.2 ∧ Acc q.2.1 1 9 (nmsL (s.kids.take q.1) ts).length (strL (nmsL (s.kids.take q.1) ts)) q.2.2) (fun q => s.kids.length - q.1) (0, .slice oa ts.length oc, acc) ⟨rfl, rfl, rfl, trivial⟩ ⟨Nat.zero_le _, hlt.rb, by simpa [nmsL] using hacc⟩ ?_
    rintro ⟨i, v, accN⟩ t w2 ⟨hi, hlN, haN⟩
    simp only at hi hlN haN
    have hr2 := hr.upd hlN.upd hnd
    refine wk_seq fun K1 hK1 => ?_
    refine wk_seq fun K2 hK2 => ?_
    refine wk_reg ?_
    by_cases hi1 : i < s.kids.length
    · obtain ⟨b, o, kv1, hpp, hrk, hkk⟩ := hk1.at hi1
      have hkk2 := hkk
      have hrk2 : Row w2 b (o + i * 4) (snL s.kids[i] kv1) := by
        obtain ⟨b', o', kv', hpp', hrk', -⟩ := (hk1.upd hlN.upd fun b hb => (hG1 b hb).1).at hi1
        have e0 : b' = b ∧ o' = o := by
          rw [hpp] at hpp'
          cases hpp'
          exact ⟨rfl, rfl⟩
        obtain ⟨rfl, rfl⟩ := e0
        have hb' : G b' := by
          cases hk1 with
          | mk ps he hs hg _ =>
            have hne2 : ps ≠ [] := by
              rintro rfl
              have := congrArg List.length he
              simp at this
              omega
            have := hg hne2
            rw [hpp] at this
            exact Classical.not_not.1 this
        exact hrk.upd hlN.upd (hG1 _ hb').1
      have hmem := List.getElem_mem hi1
      have hfk := fitL_mem hkf _ hmem
      have htk := nmsL_take_succ s.kids ts hi1
      have hck := cntL_take_succ hi1
      have hcl := cntL_take_le s.kids (i + 1)
      have hnl := nmsL_len (s.kids.take i) ts
      obtain ⟨va, vc, rfl⟩ := haN.shape
      repeat' (first | refine a_mov ?_ | refine a_asg ?_ | refine a_binN ?_ | refine a_notd ?_ | refine a_notb ?_ | refine a_nilc ?_ | refine a_fa ?_ | refine a_ext ?_ | refine a_lenv ?_ | refine a_lens ?_ | refine a_pick_t ?_ | refine a_pick_f ?_ | refine a_not ?_ | refine a_nilf ?_ | (refine a_bin ?_ ?_ <;> intro _ <;> try (exfalso; omega)) | refine a_ld hl ?_ | (refine a_st hl ?_; clear hl; intro _ hl) | refine a_ix (fun _ => ?_) | refine a_row hr2 ?_ | fail)
      refine o_nil (hK2 _ _ ?_)
      clear hK2 K2
      refine wk_cond_t rfl ?_
      refine wk_skip (hK1 _ _ ?_)
      clear hK1 K1
      refine wk_seq fun K1 hK1 => ?_
      refine wk_block ?_
      refine wk_reg ?_
      repeat' (first | refine a_mov ?_ | refine a_asg ?_ | refine a_binN ?_ | refine a_notd ?_ | refine a_notb ?_ | refine a_nilc ?_ | refine a_fa ?_ | refine a_ext ?_ | refine a_lenv ?_ | refine a_lens ?_ | refine a_pick_t ?_ | refine a_pick_f ?_ | refine a_not ?_ | refine a_nilf ?_ | (refine a_bin ?_ ?_ <;> intro _ <;> try (exfalso; omega)) | refine a_ld hl ?_ | (refine a_st hl ?_; clear hl; intro _ hl) | refine a_ix (fun _ => ?_) | refine a_row hr2 ?_ | refine a_idx (c := 4) i hpp ?_ | refine a_all hrk2 ?_ | fail)
      refine a_fn (ih s.kids[i] hmem w1 w2 (fun b => b ∈ acc.map (·.1)) G kv1 _ accN (nmsL (s.kids.take i) ts) hG1 (hok _ hmem) hfk hkk hlN haN (by omega)) ?_
      rintro v' w3 ⟨acc', hl', ha'⟩
      repeat' (first | refine a_mov ?_ | refine a_asg ?_ | refine a_binN ?_ | refine a_notd ?_ | refine a_notb ?_ | refine a_nilc ?_ | refine a_fa ?_ | refine a_ext ?_ | refine a_lenv ?_ | refine a_lens ?_ | refine a_pick_t ?_ | refine a_pick_f ?_ | refine a_not ?_ | refine a_nilf ?_ | (refine a_bin ?_ ?_ <;> intro _ <;> try (exfalso; omega)) | refine a_ld hl ?_ | (refine a_st hl ?_; clear hl; intro _ hl) | refine a_ix (fun _ => ?_) | fail)
      refine o_nil (hK1 _ _ ?_)
      clear hK1 K1
      refine wk_reg ?_
      repeat' (first | refine a_mov ?_ | refine a_asg ?_ | refine a_binN ?_ | refine a_notd ?_ | refine a_notb ?_ | refine a_nilc ?_ | refine a_fa ?_ | refine a_ext ?_ | refine a_lenv ?_ | refine a_lens ?_ | refine a_pick_t ?_ | refine a_pick_f ?_ | refine a_not ?_ | refine a_nilf ?_ | (refine a_bin ?_ ?_ <;> intro _ <;> try (exfalso; omega)) | refine a_ld hl ?_ | (refine a_st hl ?_; clear hl; intro _ hl) | refine a_ix (fun _ => ?_) | fail)
      refine o_nil ⟨(i + 1, v', acc'), ⟨rfl, rfl, rfl, trivial⟩, rfl, ⟨hi1, hl', ?_⟩, by simp only; omega⟩
      simp only
      rw [htk]
      exact ha'
    · obtain rfl : i = s.kids.length := by omega
      rw [List.take_length] at haN
      repeat' (first | refine a_mov ?_ | refine a_asg ?_ | refine a_binN ?_ | refine a_notd ?_ | refine a_notb ?_ | refine a_nilc ?_ | refine a_fa ?_ | refine a_ext ?_ | refine a_lenv ?_ | refine a_lens ?_ | refine a_pick_t ?_ | refine a_pick_f ?_ | refine a_not ?_ | refine a_nilf ?_ | (refine a_bin ?_ ?_ <;> intro _ <;> try (exfalso; omega)) | refine a_ld hl ?_ | (refine a_st hl ?_; clear hl; intro _ hl) | refine a_ix (fun _ => ?_) | refine a_row hr2 ?_ | fail)
      refine o_nil (hK2 _ _ ?_)
      clear hK2 K2
      refine wk_cond_f rfl ?_
      refine wk_exit ?_
      refine blockK_same ?_
      refine hK _ _ ?_
      clear hK1 K1
      clear hK K
      refine wk_seq fun K hK => ?_
      refine wk_reg ?_
      repeat' (first | refine a_mov ?_ | refine a_asg ?_ | refine a_binN ?_ | refine a_notd ?_ | refine a_notb ?_ | refine a_nilc ?_ | refine a_fa ?_ | refine a_ext ?_ | refine a_lenv ?_ | refine a_lens ?_ | refine a_pick_t ?_ | refine a_pick_f ?_ | refine a_not ?_ | refine a_nilf ?_ | (refine a_bin ?_ ?_ <;> intro _ <;> try (exfalso; omega)) | refine a_ld hl ?_ | (refine a_st hl ?_; clear hl; intro _ hl) | refine a_ix (fun _ => ?_) | fail)
      refine o_nil (hK _ _ ?_)
      refine wk_ret (retQ_tmp1 Tryz.results44 (by decide) rfl (by conv => lhs; whnf) ?_)
      rw [hne]
      exact ⟨accN, hlt.bk hlN, haN⟩
theorem NamesR_calls {s : Sn} {w : World} {kv : Value} (hd : dep s ≤ 1000000) (hfit : fitS s) (hk : KA w s.kids kv) : Calls Tryz.prog 23 #[.agg (snL s kv).toArray] w (fun e w' => ∃ v, e = .returned v ∧ ∃ acc, LH w (fun _ => False) w' acc ∧ Acc v 1 9 (names s).length (strL (names s)) acc) := by
  obtain ⟨ka, kc, rfl, -⟩ := hk.shape
  have hne : names s = if validB s then nms s [] else [] := rfl
  refine calls_of Tryz.func23 rfl Tryz.ntmps23 rfl ?_
  refine wk_seq fun K hK => ?_
  refine wk_reg ?_
  refine o_box (LH.start w (fun _ => False)) (snL s (.slice ka s.kids.length kc)) rfl rfl rfl ?_
  intro b2 w1 hb2 hl
  have hr : Row w1 b2 0 (snL s (.slice ka s.kids.length kc)) := hl.rowL (vs := snL s (.slice ka s.kids.length kc)) 0 0 4 rfl
  have hx1 := hl.done
  clear hl
  refine a_asg ?_
  refine o_nil (hK _ _ ?_)
  clear hK K
  refine wk_seq fun K hK => ?_
  refine wk_seq fun K2 hK2 => ?_
  refine wk_reg ?_
  refine a_all hr ?_
  refine a_fn (validR_calls hd hfit (hk.ext hx1)) ?_
  rintro _ w2 ⟨rfl, hx2⟩
  refine a_notb ?_
  refine o_nil (hK2 _ _ ?_)
  clear hK2 K2
  cases hv : validB s
  · rw [hv, if_neg (by decide)] at hne
    refine wk_cond_t rfl ?_
    refine wk_seq fun K2 hK2 => ?_
    refine wk_reg ?_
    refine a_asg ?_
    refine o_nil (hK2 _ _ ?_)
    refine wk_ret (retQ_tmp1 Tryz.results23 (by decide) rfl (by conv => lhs; whnf) ?_)
    rw [hne]
    exact ⟨[], (LH.start w _).ext (hx1.trans hx2), Acc.nil _ _⟩
  · rw [hv, if_pos rfl] at hne
    have hval : okB s = true ∧ cnt s ≤ 200 := by
      unfold validB at hv
      rw [decide_eq_true_eq] at hv
      have h1 := hv.1
      exact ⟨hv.2.2, by omega⟩
    refine wk_cond_f rfl ?_
    refine wk_skip (hK _ _ ?_)
    clear hK K
    refine wk_seq fun K hK => ?_
    refine wk_reg ?_
    refine a_all (hr.ext hx2) ?_
    refine a_fn (namesIn_calls s w w2 (fun _ => False) (fun b => b < w.heap.size) (.slice ka s.kids.length kc) (.slice none 0 0) [] [] (fun b hb => ⟨fun h => h, hb⟩) hval.1 hfit hk ((LH.start w _).ext (hx1.trans hx2)) (Acc.nil _ _) (by simp; omega)) ?_
    rintro v w3 ⟨acc, hl, ha⟩
    refine a_asg ?_
    refine o_nil (hK _ _ ?_)
    refine wk_ret (retQ_tmp1 Tryz.results23 (by decide) rfl (by conv => lhs; whnf) ?_)
    rw [hne]
    exact ⟨acc, hl, ha⟩
end Go.Proofs
