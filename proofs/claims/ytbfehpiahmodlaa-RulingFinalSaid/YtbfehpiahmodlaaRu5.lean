/-
  The statement RulingFinal, walked.
-/
import Derived.Test.YtbfehpiahmodlaaRu4
set_option linter.unusedVariables false
set_option linter.unusedSimpArgs false
set_option linter.unnecessarySimpa false
set_option maxRecDepth 10000
namespace Go.Rul
open Go.Lexs Go.Fin Go.Fo
theorem inB_take {a : List Rul} {i : Nat} (hi : i < a.length) (s : List UInt8) : inB (a.take (i + 1)) s = (inB (a.take i) s || decide (a[i].id = s)) := by
  unfold inB
  rw [List.take_succ_eq_append_getElem hi, List.any_append]; simp
def liftsB (l : List Rul) : Bool := l.any fun r => decide (r.kind = 6)
theorem liftsB_take {l : List Rul} {i : Nat} (hi : i < l.length) : liftsB (l.take (i + 1)) = (liftsB (l.take i) || decide (l[i].kind = 6)) := by
  unfold liftsB
  rw [List.take_succ_eq_append_getElem hi, List.any_append]; simp
theorem final_law2 {l : List Rul} {known : Int} (hn : (l.map (·.id)).Nodup) {i : Nat} (hi : i < l.length) :
    (l[i].fin = true → (inB (counting l known) l[i].id = true ↔ l[i].known ≤ known ∧ idleB l known l[i] = false)) ∧ (idleB l known l[i] = true → inB (counting l known) l[i].id = false) ∧ (liftsB l = false → (inB (counting l known) l[i].id = true ↔ l[i].known ≤ known)) ∧
    (∀ (k : Nat) (hk : k < i), l[i].kind = 6 → inB (counting l known) l[i].id = true → l[k].id = l[i].lifts → inB (counting l known) l[k].id = false) := by
  obtain ⟨h1, h2, h3, h4⟩ := final_law (known := known) hn hi
  refine ⟨fun h => ?_, h2, fun h => ?_, h4⟩
  · rw [h1 h, Bool.and_eq_true, decide_eq_true_eq, Bool.not_eq_true']
  · rw [h3 (fun r hr h6 => by
      unfold liftsB at h
      rw [List.any_eq_false] at h
      exact h r hr (decide_eq_true h6)), decide_eq_true_eq]
end Go.Rul

namespace Go.Proofs
open Go Go.Pd Go.Lexs Go.Fin Go.Fo
attribute [local irreducible] OpsL W RetQ OpsQ OpsC

theorem heap_ext {w w' : World} {b : Nat} {o : Obj} (h : w.heap[b]? = some o) (e : Ext w w') : w'.heap[b]? = some o := (e.same b (Array.getElem?_eq_some_iff.1 h).1 (fun h => h)).trans h
def InMap (m : List (List UInt8 × Value)) (a : List Rul.Rul) : Prop := ∀ s, (Pd.get m s).getD (.bool false) = .bool (Rul.inB a s)
theorem InMap.step {m : List (List UInt8 × Value)} {a : List Rul.Rul} {i : Nat} (hi : i < a.length) (h : InMap m (a.take i)) : InMap (ins m a[i].id (.bool true)) (a.take (i + 1)) := by
  intro s
  rw [get_ins, Rul.inB_take hi]
  by_cases hs : s = a[i].id
  · rw [if_pos hs, decide_eq_true hs.symm, Bool.or_true]; rfl
  · rw [if_neg hs, h s, decide_eq_false (fun e => hs e.symm), Bool.or_false]

set_option maxHeartbeats 16000000 in
theorem ruFinal_calls {w : World} {l : List Rul.Rul} {lv : Value} (hl : RulsIn w l lv) (known : Int) :
    Calls Try.prog 7 #[lv, .int .i64 known] w (fun e w' => ∃ x, e = .returned x ∧ x = .bool true ∧ Ext w w') := by
  obtain ⟨la, lc, rfl, hmc⟩ := hl.at_.shape
  have hll := hl.len
  have L := hl.at_
  refine calls_of Try.func7 rfl Try.ntmps7 rfl ?_
  repeat' (first | refine a_mov ?_ | refine a_asg ?_ | refine a_binN ?_ | refine a_notd ?_ | refine a_notb ?_ | refine a_nilc ?_ | refine a_fa ?_ | refine a_ext ?_ | refine a_lenv ?_ | refine a_lens ?_ | refine a_pick_t ?_ | refine a_pick_f ?_ | refine a_not ?_ | refine a_nilf ?_ | (refine o_nil (hK _ _ ?_); clear hK K) | refine wk_reg ?_ | refine wk_seq fun K hK => ?_ | (refine wk_skip (hK _ _ ?_); clear hK K) | (refine wk_label (hK _ _ ?_); clear hK K) | refine wk_scope ?_ | refine wk_block ?_ | refine wk_cond_t rfl ?_ | refine wk_cond_f rfl ?_ | (refine wk_exit ?_; (repeat (refine blockK_other rfl ?_)); refine blockK_same ?_; try ((repeat ((fail_if_success (refine hK _ _ ?_)); clear hK K)); refine hK _ _ ?_; clear hK K)) | (refine a_bin ?_ ?_ <;> intro _ <;> try (exfalso; omega)) | refine a_ld hl ?_ | (refine a_st hl ?_; clear hl; intro _ hl) | refine a_ix (fun _ => ?_) | fail)
  refine a_fn (ruHead_calls w) ?_
  rintro _ w1 ⟨rfl, he⟩
  replace L := L.ext he
  repeat' (first | refine a_mov ?_ | refine a_asg ?_ | refine a_binN ?_ | refine a_notd ?_ | refine a_notb ?_ | refine a_nilc ?_ | refine a_fa ?_ | refine a_ext ?_ | refine a_lenv ?_ | refine a_lens ?_ | refine a_pick_t ?_ | refine a_pick_f ?_ | refine a_not ?_ | refine a_nilf ?_ | (refine o_nil (hK _ _ ?_); clear hK K) | refine wk_reg ?_ | refine wk_seq fun K hK => ?_ | (refine wk_skip (hK _ _ ?_); clear hK K) | (refine wk_label (hK _ _ ?_); clear hK K) | refine wk_scope ?_ | refine wk_block ?_ | refine wk_cond_t rfl ?_ | refine wk_cond_f rfl ?_ | (refine wk_exit ?_; (repeat (refine blockK_other rfl ?_)); refine blockK_same ?_; try ((repeat ((fail_if_success (refine hK _ _ ?_)); clear hK K)); refine hK _ _ ?_; clear hK K)) | (refine a_bin ?_ ?_ <;> intro _ <;> try (exfalso; omega)) | refine a_ld hl ?_ | (refine a_st hl ?_; clear hl; intro _ hl) | refine a_ix (fun _ => ?_) | fail)
  refine a_fn (ruFew_calls l _ 14 w1 L (by omega) (fun r hr => (hl.ok r hr).f)) ?_
  rintro _ w2 ⟨rfl, hx⟩
  ((first | (replace L := L.ext (hx)) | skip); (first | (replace A := A.ext (hx)) | skip); replace he := he.trans (hx))
  clear hx
  cases hf1 : Rul.fewB l 14
  · repeat' (first | refine a_mov ?_ | refine a_asg ?_ | refine a_binN ?_ | refine a_notd ?_ | refine a_notb ?_ | refine a_nilc ?_ | refine a_fa ?_ | refine a_ext ?_ | refine a_lenv ?_ | refine a_lens ?_ | refine a_pick_t ?_ | refine a_pick_f ?_ | refine a_not ?_ | refine a_nilf ?_ | (refine o_nil (hK _ _ ?_); clear hK K) | refine wk_reg ?_ | refine wk_seq fun K hK => ?_ | (refine wk_skip (hK _ _ ?_); clear hK K) | (refine wk_label (hK _ _ ?_); clear hK K) | refine wk_scope ?_ | refine wk_block ?_ | refine wk_cond_t rfl ?_ | refine wk_cond_f rfl ?_ | (refine wk_exit ?_; (repeat (refine blockK_other rfl ?_)); refine blockK_same ?_; try ((repeat ((fail_if_success (refine hK _ _ ?_)); clear hK K)); refine hK _ _ ?_; clear hK K)) | (refine a_bin ?_ ?_ <;> intro _ <;> try (exfalso; omega)) | refine a_ld hl ?_ | (refine a_st hl ?_; clear hl; intro _ hl) | refine a_ix (fun _ => ?_) | fail)
    refine wk_ret (retQ_tmp1 Try.results7 (by decide) rfl (by conv => lhs; whnf) ?_)
    exact ⟨rfl, he⟩
  have q1 := Rul.few_iff.1 hf1
  have hok : ∀ r ∈ l, cnt r.read ≤ 1000000 ∧ RuLen r := fun r hr => ⟨Rul.few_ok hf1 r hr, (hl.ok r hr).len⟩
  clear hf1
  repeat' (first | refine a_mov ?_ | refine a_asg ?_ | refine a_binN ?_ | refine a_notd ?_ | refine a_notb ?_ | refine a_nilc ?_ | refine a_fa ?_ | refine a_ext ?_ | refine a_lenv ?_ | refine a_lens ?_ | refine a_pick_t ?_ | refine a_pick_f ?_ | refine a_not ?_ | refine a_nilf ?_ | (refine o_nil (hK _ _ ?_); clear hK K) | refine wk_reg ?_ | refine wk_seq fun K hK => ?_ | (refine wk_skip (hK _ _ ?_); clear hK K) | (refine wk_label (hK _ _ ?_); clear hK K) | refine wk_scope ?_ | refine wk_block ?_ | refine wk_cond_t rfl ?_ | refine wk_cond_f rfl ?_ | (refine wk_exit ?_; (repeat (refine blockK_other rfl ?_)); refine blockK_same ?_; try ((repeat ((fail_if_success (refine hK _ _ ?_)); clear hK K)); refine hK _ _ ?_; clear hK K)) | (refine a_bin ?_ ?_ <;> intro _ <;> try (exfalso; omega)) | refine a_ld hl ?_ | (refine a_st hl ?_; clear hl; intro _ hl) | refine a_ix (fun _ => ?_) | fail)
  refine a_fn (ruCount_calls l _ known w2 L (by omega) hok) ?_
  rintro _ w3 ⟨⟨av, rfl, A⟩, hx⟩
  ((first | (replace L := L.ext (hx)) | skip); (first | (replace A := A.ext (hx)) | skip); replace he := he.trans (hx))
  clear hx
  by_cases herr : (Rul.countB l known).err = 0
  rotate_left
  · obtain ⟨aa, ac, rfl, -⟩ := A.shape
    generalize (Rul.countB l known).err = er at *
    repeat' (first | refine a_mov ?_ | refine a_asg ?_ | refine a_binN ?_ | refine a_notd ?_ | refine a_notb ?_ | refine a_nilc ?_ | refine a_fa ?_ | refine a_ext ?_ | refine a_lenv ?_ | refine a_lens ?_ | refine a_pick_t ?_ | refine a_pick_f ?_ | refine a_not ?_ | refine a_nilf ?_ | (refine o_nil (hK _ _ ?_); clear hK K) | refine wk_reg ?_ | refine wk_seq fun K hK => ?_ | (refine wk_skip (hK _ _ ?_); clear hK K) | (refine wk_label (hK _ _ ?_); clear hK K) | refine wk_scope ?_ | refine wk_block ?_ | refine wk_cond_t rfl ?_ | refine wk_cond_f rfl ?_ | (refine wk_exit ?_; (repeat (refine blockK_other rfl ?_)); refine blockK_same ?_; try ((repeat ((fail_if_success (refine hK _ _ ?_)); clear hK K)); refine hK _ _ ?_; clear hK K)) | (refine a_bin ?_ ?_ <;> intro _ <;> try (exfalso; omega)) | refine a_ld hl ?_ | (refine a_st hl ?_; clear hl; intro _ hl) | refine a_ix (fun _ => ?_) | fail)
    refine wk_ret (retQ_tmp1 Try.results7 (by decide) rfl (by conv => lhs; whnf) ?_)
    exact ⟨rfl, he⟩
  have hnd := (Rul.countB_ok.1 herr).2.2.2
  have hlaw := fun i (hi : i < l.length) => Rul.final_law2 (known := known) hnd hi
  have hal := (Rul.countB_sub l known).length_le
  rw [herr]
  rw [Rul.countB_out herr] at A hal
  clear herr
  obtain ⟨aa, ac, rfl, -⟩ := A.shape
  generalize hcl : Rul.counting l known = a at *
  repeat' (first | refine a_mov ?_ | refine a_asg ?_ | refine a_binN ?_ | refine a_notd ?_ | refine a_notb ?_ | refine a_nilc ?_ | refine a_fa ?_ | refine a_ext ?_ | refine a_lenv ?_ | refine a_lens ?_ | refine a_pick_t ?_ | refine a_pick_f ?_ | refine a_not ?_ | refine a_nilf ?_ | (refine o_nil (hK _ _ ?_); clear hK K) | refine wk_reg ?_ | refine wk_seq fun K hK => ?_ | (refine wk_skip (hK _ _ ?_); clear hK K) | (refine wk_label (hK _ _ ?_); clear hK K) | refine wk_scope ?_ | refine wk_block ?_ | refine wk_cond_t rfl ?_ | refine wk_cond_f rfl ?_ | (refine wk_exit ?_; (repeat (refine blockK_other rfl ?_)); refine blockK_same ?_; try ((repeat ((fail_if_success (refine hK _ _ ?_)); clear hK K)); refine hK _ _ ?_; clear hK K)) | (refine a_bin ?_ ?_ <;> intro _ <;> try (exfalso; omega)) | refine a_ld hl ?_ | (refine a_st hl ?_; clear hl; intro _ hl) | refine a_ix (fun _ => ?_) | fail)
  refine o_makeMap (LH.start w3 (fun _ => False)) rfl ?_
  intro m8 w4 hm8 hlh
  repeat' (first | refine a_mov ?_ | refine a_asg ?_ | refine a_binN ?_ | refine a_notd ?_ | refine a_notb ?_ | refine a_nilc ?_ | refine a_fa ?_ | refine a_ext ?_ | refine a_lenv ?_ | refine a_lens ?_ | refine a_pick_t ?_ | refine a_pick_f ?_ | refine a_not ?_ | refine a_nilf ?_ | (refine o_nil (hK _ _ ?_); clear hK K) | refine wk_reg ?_ | refine wk_seq fun K hK => ?_ | (refine wk_skip (hK _ _ ?_); clear hK K) | (refine wk_label (hK _ _ ?_); clear hK K) | refine wk_scope ?_ | refine wk_block ?_ | refine wk_cond_t rfl ?_ | refine wk_cond_f rfl ?_ | (refine wk_exit ?_; (repeat (refine blockK_other rfl ?_)); refine blockK_same ?_; try ((repeat ((fail_if_success (refine hK _ _ ?_)); clear hK K)); refine hK _ _ ?_; clear hK K)) | (refine a_bin ?_ ?_ <;> intro _ <;> try (exfalso; omega)) | refine a_ld hl ?_ | (refine a_st hl ?_; clear hl; intro _ hl) | refine a_ix (fun _ => ?_) | fail)
  refine o_makeMap hlh rfl ?_
  clear hlh
  intro m9 w5 hm9 hlh
  repeat' (first | refine a_mov ?_ | refine a_asg ?_ | refine a_binN ?_ | refine a_notd ?_ | refine a_notb ?_ | refine a_nilc ?_ | refine a_fa ?_ | refine a_ext ?_ | refine a_lenv ?_ | refine a_lens ?_ | refine a_pick_t ?_ | refine a_pick_f ?_ | refine a_not ?_ | refine a_nilf ?_ | (refine o_nil (hK _ _ ?_); clear hK K) | refine wk_reg ?_ | refine wk_seq fun K hK => ?_ | (refine wk_skip (hK _ _ ?_); clear hK K) | (refine wk_label (hK _ _ ?_); clear hK K) | refine wk_scope ?_ | refine wk_block ?_ | refine wk_cond_t rfl ?_ | refine wk_cond_f rfl ?_ | (refine wk_exit ?_; (repeat (refine blockK_other rfl ?_)); refine blockK_same ?_; try ((repeat ((fail_if_success (refine hK _ _ ?_)); clear hK K)); refine hK _ _ ?_; clear hK K)) | (refine a_bin ?_ ?_ <;> intro _ <;> try (exfalso; omega)) | refine a_ld hl ?_ | (refine a_st hl ?_; clear hl; intro _ hl) | refine a_ix (fun _ => ?_) | fail)
  refine wk_loopH [] rfl (fun q : Nat × Array MapEntry × Nat × List (List UInt8 × Value) => [(0, .slice la l.length lc), (1, .int .i64 known), (5, .bool true), (6, .slice aa a.length ac), (8, .map (some m8)), (9, .map (some m9)), (10, .int .i64 (q.1 : Int))])
    (fun q w' => (q.1 ≤ a.length ∧ MapR str q.2.1 q.2.2.2 ∧ InMap q.2.2.2 (a.take q.1)) ∧ LH w3 (fun _ => False) w' [(m9, .map #[] 0), (m8, .map q.2.1 q.2.2.1)]) (fun q => a.length - q.1) (0, #[], 0, []) ⟨rfl, rfl, rfl, rfl, rfl, rfl, rfl, trivial⟩ ⟨⟨Nat.zero_le _, MapR.nil, fun s => rfl⟩, hlh⟩ ?_
  clear hlh
  rintro ⟨i, es8, c8, m⟩ t w6 ⟨⟨hi, hmr, him⟩, hlh⟩
  simp only at hi hmr him hlh
  by_cases hi1 : i < a.length
  · obtain ⟨b, o, kv, hp, hrow, -⟩ := (A.ext hlh.done).at hi1
    have hst := him.step hi1
    generalize a[i] = r at *
    repeat' (first | refine a_mov ?_ | refine a_asg ?_ | refine a_binN ?_ | refine a_notd ?_ | refine a_notb ?_ | refine a_nilc ?_ | refine a_fa ?_ | refine a_ext ?_ | refine a_lenv ?_ | refine a_lens ?_ | refine a_pick_t ?_ | refine a_pick_f ?_ | refine a_not ?_ | refine a_nilf ?_ | (refine o_nil (hK _ _ ?_); clear hK K) | refine wk_reg ?_ | refine wk_seq fun K hK => ?_ | (refine wk_skip (hK _ _ ?_); clear hK K) | (refine wk_label (hK _ _ ?_); clear hK K) | refine wk_scope ?_ | refine wk_block ?_ | refine wk_cond_t rfl ?_ | refine wk_cond_f rfl ?_ | (refine wk_exit ?_; (repeat (refine blockK_other rfl ?_)); refine blockK_same ?_; try ((repeat ((fail_if_success (refine hK _ _ ?_)); clear hK K)); refine hK _ _ ?_; clear hK K)) | (refine a_bin ?_ ?_ <;> intro _ <;> try (exfalso; omega)) | refine a_ld hl ?_ | (refine a_st hl ?_; clear hl; intro _ hl) | refine a_ix (fun _ => ?_) | refine a_idx (c := 13) i hp ?_ | refine a_row hrow ?_)
    refine o_mapUpdate r.id hlh 1 rfl hmr keyId rfl rfl rfl rfl rfl ?_
    clear hlh
    intro w7 es' c' hmr' hlh
    repeat' (first | refine a_mov ?_ | refine a_asg ?_ | refine a_binN ?_ | refine a_notd ?_ | refine a_notb ?_ | refine a_nilc ?_ | refine a_fa ?_ | refine a_ext ?_ | refine a_lenv ?_ | refine a_lens ?_ | refine a_pick_t ?_ | refine a_pick_f ?_ | refine a_not ?_ | refine a_nilf ?_ | (refine o_nil (hK _ _ ?_); clear hK K) | refine wk_reg ?_ | refine wk_seq fun K hK => ?_ | (refine wk_skip (hK _ _ ?_); clear hK K) | (refine wk_label (hK _ _ ?_); clear hK K) | refine wk_scope ?_ | refine wk_block ?_ | refine wk_cond_t rfl ?_ | refine wk_cond_f rfl ?_ | (refine wk_exit ?_; (repeat (refine blockK_other rfl ?_)); refine blockK_same ?_; try ((repeat ((fail_if_success (refine hK _ _ ?_)); clear hK K)); refine hK _ _ ?_; clear hK K)) | (refine a_bin ?_ ?_ <;> intro _ <;> try (exfalso; omega)) | refine a_ld hl ?_ | (refine a_st hl ?_; clear hl; intro _ hl) | refine a_ix (fun _ => ?_) | fail)
    exact o_nil ⟨(i + 1, es', c', _), ⟨rfl, rfl, rfl, rfl, rfl, rfl, rfl, trivial⟩, rfl, ⟨⟨hi1, hmr', hst⟩, hlh⟩, by show a.length - (i + 1) < a.length - i; omega⟩
  rw [List.take_of_length_le (by omega)] at him
  repeat' (first | refine a_mov ?_ | refine a_asg ?_ | refine a_binN ?_ | refine a_notd ?_ | refine a_notb ?_ | refine a_nilc ?_ | refine a_fa ?_ | refine a_ext ?_ | refine a_lenv ?_ | refine a_lens ?_ | refine a_pick_t ?_ | refine a_pick_f ?_ | refine a_not ?_ | refine a_nilf ?_ | (refine o_nil (hK _ _ ?_); clear hK K) | refine wk_reg ?_ | refine wk_seq fun K hK => ?_ | (refine wk_skip (hK _ _ ?_); clear hK K) | (refine wk_label (hK _ _ ?_); clear hK K) | refine wk_scope ?_ | refine wk_block ?_ | refine wk_cond_t rfl ?_ | refine wk_cond_f rfl ?_ | (refine wk_exit ?_; (repeat (refine blockK_other rfl ?_)); refine blockK_same ?_; try ((repeat ((fail_if_success (refine hK _ _ ?_)); clear hK K)); refine hK _ _ ?_; clear hK K)) | (refine a_bin ?_ ?_ <;> intro _ <;> try (exfalso; omega)) | refine a_ld hl ?_ | (refine a_st hl ?_; clear hl; intro _ hl) | refine a_ix (fun _ => ?_) | fail)
  refine wk_loopH [] rfl (fun q : Nat × Array MapEntry × Nat × List (List UInt8 × Value) => [(0, .slice la l.length lc), (1, .int .i64 known), (5, .bool true), (6, .slice aa a.length ac), (8, .map (some m8)), (9, .map (some m9)), (11, .bool (Rul.liftsB (l.take q.1))), (12, .int .i64 (q.1 : Int))])
    (fun q w' => (q.1 ≤ l.length ∧ MapR str q.2.1 q.2.2.2 ∧ FinMap q.2.2.2 (l.take q.1) known) ∧ LH w3 (fun _ => False) w' [(m9, .map q.2.1 q.2.2.1), (m8, .map es8 c8)]) (fun q => l.length - q.1) (0, #[], 0, []) ⟨rfl, rfl, rfl, rfl, rfl, rfl, rfl, rfl, trivial⟩ ⟨⟨Nat.zero_le _, MapR.nil, fun s => rfl⟩, hlh⟩ ?_
  clear hlh
  rintro ⟨j, es9, c9, m2⟩ t w6 ⟨⟨hj, hmr2, hfm⟩, hlh⟩
  simp only at hj hmr2 hfm hlh
  by_cases hj1 : j < l.length
  · obtain ⟨b, o, kv, hp, hrow0, -⟩ := L.at hj1
    have hrow := hrow0.ext hlh.done
    have hnot : l[j].id ∉ (l.take j).map (·.id) := by
      intro hm
      obtain ⟨x, hx, hxe⟩ := List.mem_map.1 hm
      obtain ⟨k, hk, rfl⟩ := List.mem_iff_getElem.1 hx
      rw [List.length_take] at hk
      rw [List.getElem_take] at hxe
      have h1 : (l.map (·.id))[k]? = (l.map (·.id))[j]? := by simp [hj1, show k < l.length by omega, hxe]
      have := (List.getElem?_inj (by simp; omega) hnd).1 h1
      omega
    have hstep := hfm.step hnot
    have hlf := Rul.liftsB_take hj1
    rw [← List.take_succ_eq_append_getElem hj1] at hstep
    generalize l[j] = r at *
    have r0 : Row w6 b (o + j * 13) [str r.id, str r.tgt, .int .i64 r.kind] := fun k v hv => hrow k v (by match k, hv with | 0, hv => exact hv | 1, hv => exact hv | 2, hv => exact hv)
    have r10 : Row w6 b (o + j * 13 + 10) [.int .i64 r.known, .bool r.fin] := Row.sub5 hrow rfl
    generalize hflag : Rul.liftsB (l.take j) = flag at *
    have go : ∀ (w7 : World) (es' : Array MapEntry) (c' : Nat) (fl : Bool), fl = Rul.liftsB (l.take (j + 1)) → ∀ m', MapR str es' m' → FinMap m' (l.take (j + 1)) known → LH w3 (fun _ => False) w7 [(m9, .map es' c'), (m8, .map es8 c8)] → (j + 1 ≤ l.length ∧ MapR str es' m' ∧ FinMap m' (l.take (j + 1)) known) ∧ LH w3 (fun _ => False) w7 [(m9, .map es' c'), (m8, .map es8 c8)] := fun w7 es' c' fl h1 m' h2 h3 h4 => ⟨⟨hj1, h2, h3⟩, h4⟩
    cases hfin : r.fin
    all_goals rw [hfin] at r10
    all_goals simp only [hfin] at hstep
    all_goals repeat' (first | refine a_mov ?_ | refine a_asg ?_ | refine a_binN ?_ | refine a_notd ?_ | refine a_notb ?_ | refine a_nilc ?_ | refine a_fa ?_ | refine a_ext ?_ | refine a_lenv ?_ | refine a_lens ?_ | refine a_pick_t ?_ | refine a_pick_f ?_ | refine a_not ?_ | refine a_nilf ?_ | (refine o_nil (hK _ _ ?_); clear hK K) | refine wk_reg ?_ | refine wk_seq fun K hK => ?_ | (refine wk_skip (hK _ _ ?_); clear hK K) | (refine wk_label (hK _ _ ?_); clear hK K) | refine wk_scope ?_ | refine wk_block ?_ | refine wk_cond_t rfl ?_ | refine wk_cond_f rfl ?_ | (refine wk_exit ?_; (repeat (refine blockK_other rfl ?_)); refine blockK_same ?_; try ((repeat ((fail_if_success (refine hK _ _ ?_)); clear hK K)); refine hK _ _ ?_; clear hK K)) | (refine a_bin ?_ ?_ <;> intro _ <;> try (exfalso; omega)) | refine a_ld hl ?_ | (refine a_st hl ?_; clear hl; intro _ hl) | refine a_ix (fun _ => ?_) | fail)
    all_goals refine wk_draw [0, 1, 2, 3, 4, 5, 6, 7, 8, 9, 10, 11, 12, 13, 14, 15, 16, 17, 18, 19] [] [20] (fun w' => To w6 w' w6.heap) (fun _ => True) rfl (by kernel_rfl) (fun _ _ _ _ h => by first | exact h | (simp only [BlockK, NoGoto, RetQ] at h)) (fun _ h => h) (fun _ _ => trivial) ?_
    all_goals repeat' (first | refine q_mov ?_ | refine q_asg ?_ | refine q_fa ?_ | refine q_ext ?_ | refine q_binN ?_ | refine q_notd ?_ | refine q_notb ?_ | refine q_pick_t ?_ | refine q_pick_f ?_ | refine q_nilc ?_ | refine q_skip ?_ | refine q_lens ?_ | refine q_lenv ?_ | refine q_nil ?_ | refine q_ix (fun _ => ?_) | (refine q_bin ?_ ?_ <;> intro _ <;> try (exfalso; omega)) | refine q_idx (c := 13) j hp ?_ | refine q_row (fun w_ hw_ => r0.heap hw_) ?_ | refine q_row (fun w_ hw_ => r10.heap hw_) ?_)
    all_goals (intro w7 hw7; replace r0 := r0.heap hw7)
    all_goals have hlh2 := hlh.heap hw7
    all_goals refine ops_tail rfl rfl ?_
    all_goals refine o_mapUpdate r.id hlh2 0 rfl hmr2 keyId rfl rfl rfl rfl rfl ?_
    all_goals (clear hlh2; intro w8 es' c' hmr' hlh2)
    all_goals refine o_nil ⟨trivial, ?_⟩
    all_goals refine ops_nil (hK _ _ ?_)
    all_goals clear hK K
    all_goals first | rw [Bool.false_and] at hstep | rw [Bool.true_and, decide_eq_true (by assumption)] at hstep | rw [Bool.true_and, decide_eq_false (by assumption)] at hstep
    all_goals replace r0 : Row w8 b (o + j * 13) [str r.id, str r.tgt, .int .i64 r.kind] := fun k v hv => hrow0.ext hlh2.done k v (by match k, hv with | 0, hv => exact hv | 1, hv => exact hv | 2, hv => exact hv)
    all_goals cases flag
    all_goals repeat' (first | refine a_mov ?_ | refine a_asg ?_ | refine a_binN ?_ | refine a_notd ?_ | refine a_notb ?_ | refine a_nilc ?_ | refine a_fa ?_ | refine a_ext ?_ | refine a_lenv ?_ | refine a_lens ?_ | refine a_pick_t ?_ | refine a_pick_f ?_ | refine a_not ?_ | refine a_nilf ?_ | (refine o_nil (hK _ _ ?_); clear hK K) | refine wk_reg ?_ | refine wk_seq fun K hK => ?_ | (refine wk_skip (hK _ _ ?_); clear hK K) | (refine wk_label (hK _ _ ?_); clear hK K) | refine wk_scope ?_ | refine wk_block ?_ | refine wk_cond_t rfl ?_ | refine wk_cond_f rfl ?_ | (refine wk_exit ?_; (repeat (refine blockK_other rfl ?_)); refine blockK_same ?_; try ((repeat ((fail_if_success (refine hK _ _ ?_)); clear hK K)); refine hK _ _ ?_; clear hK K)) | (refine a_bin ?_ ?_ <;> intro _ <;> try (exfalso; omega)) | refine a_ld hl ?_ | (refine a_st hl ?_; clear hl; intro _ hl) | refine a_ix (fun _ => ?_) | refine a_idx (c := 13) j hp ?_ | refine a_row r0 ?_)
    all_goals refine o_nil ⟨(j + 1, es', c', _), ⟨rfl, rfl, rfl, rfl, rfl, rfl, ?_, rfl, trivial⟩, rfl, ⟨⟨hj1, hmr', hstep⟩, hlh2⟩, by show l.length - (j + 1) < l.length - j; omega⟩
    all_goals show Value.bool _ = Value.bool _
    all_goals rw [hlf]
    all_goals first | rfl | (rw [decide_eq_true (by assumption)]; rfl) | (rw [decide_eq_false (by assumption)]; rfl)
  rw [List.take_of_length_le (by omega)] at hfm
  have hx := hlh.done
  have hm8' := hlh.get 1 rfl
  have hm9' := hlh.get 0 rfl
  ((first | (replace L := L.ext (hx)) | skip); (first | (replace A := A.ext (hx)) | skip); replace he := he.trans (hx))
  clear hx hlh
  repeat' (first | refine a_mov ?_ | refine a_asg ?_ | refine a_binN ?_ | refine a_notd ?_ | refine a_notb ?_ | refine a_nilc ?_ | refine a_fa ?_ | refine a_ext ?_ | refine a_lenv ?_ | refine a_lens ?_ | refine a_pick_t ?_ | refine a_pick_f ?_ | refine a_not ?_ | refine a_nilf ?_ | (refine o_nil (hK _ _ ?_); clear hK K) | refine wk_reg ?_ | refine wk_seq fun K hK => ?_ | (refine wk_skip (hK _ _ ?_); clear hK K) | (refine wk_label (hK _ _ ?_); clear hK K) | refine wk_scope ?_ | refine wk_block ?_ | refine wk_cond_t rfl ?_ | refine wk_cond_f rfl ?_ | (refine wk_exit ?_; (repeat (refine blockK_other rfl ?_)); refine blockK_same ?_; try ((repeat ((fail_if_success (refine hK _ _ ?_)); clear hK K)); refine hK _ _ ?_; clear hK K)) | (refine a_bin ?_ ?_ <;> intro _ <;> try (exfalso; omega)) | refine a_ld hl ?_ | (refine a_st hl ?_; clear hl; intro _ hl) | refine a_ix (fun _ => ?_) | fail)
  rw [List.take_of_length_le (by omega)]
  generalize hflag : Rul.liftsB l = flag at *
  refine wk_loopH [] rfl (fun q : Nat => [(0, .slice la l.length lc), (1, .int .i64 known), (5, .bool true), (8, .map (some m8)), (9, .map (some m9)), (11, .bool flag), (13, .int .i64 (q : Int))])
    (fun q w' => q ≤ l.length ∧ Ext w6 w') (fun q => l.length - q) 0 ⟨rfl, rfl, rfl, rfl, rfl, rfl, rfl, trivial⟩ ⟨Nat.zero_le _, .refl _ _⟩ ?_
  rintro i t w7 ⟨hi, hx⟩
  by_cases hi1 : i < l.length
  · obtain ⟨b, o, kv, hp, hrow, hkk⟩ := (L.ext hx).at hi1
    obtain ⟨law1, law2, law3, law4⟩ := hlaw i hi1
    have hone := rulC_one hkk
    have hidle : Rul.idleB l known l[i] = (decide (l[i].kind = 6) && Rul.finalB l known l[i].lifts) := rfl
    generalize l[i] = r at *
    repeat' (first | refine a_mov ?_ | refine a_asg ?_ | refine a_binN ?_ | refine a_notd ?_ | refine a_notb ?_ | refine a_nilc ?_ | refine a_fa ?_ | refine a_ext ?_ | refine a_lenv ?_ | refine a_lens ?_ | refine a_pick_t ?_ | refine a_pick_f ?_ | refine a_not ?_ | refine a_nilf ?_ | (refine o_nil (hK _ _ ?_); clear hK K) | refine wk_reg ?_ | refine wk_seq fun K hK => ?_ | (refine wk_skip (hK _ _ ?_); clear hK K) | (refine wk_label (hK _ _ ?_); clear hK K) | refine wk_scope ?_ | refine wk_block ?_ | refine wk_cond_t rfl ?_ | refine wk_cond_f rfl ?_ | (refine wk_exit ?_; (repeat (refine blockK_other rfl ?_)); refine blockK_same ?_; try ((repeat ((fail_if_success (refine hK _ _ ?_)); clear hK K)); refine hK _ _ ?_; clear hK K)) | (refine a_bin ?_ ?_ <;> intro _ <;> try (exfalso; omega)) | refine a_ld hl ?_ | (refine a_st hl ?_; clear hl; intro _ hl) | refine a_ix (fun _ => ?_) | refine a_idx (c := 13) i hp ?_ | refine a_all hrow ?_)
    refine o_alloc (LH.start w7 (fun _ => False)) [.string ⟨#[]⟩, .string ⟨#[]⟩, .int .i64 0, .int .i64 0, .int .i64 0, .int .i64 0, .string ⟨#[]⟩, .int .i64 0, .int .i64 0, .slice none 0 0, .int .i64 0, .bool false, .string ⟨#[]⟩] rfl rfl ?_
    intro b14 w8 hb14 hlh
    refine o_putN (us := [str (r).id, str (r).tgt, .int .i64 (r).kind, .int .i64 (r).fro, .int .i64 (r).til, .int .i64 (r).read.op, str (r).read.name, .int .i64 (r).read.cmp, .int .i64 (r).read.num, kv, .int .i64 (r).known, .bool (r).fin, str (r).lifts]) hlh rfl rfl rfl hone rfl (.all rfl rfl) ?_
    clear hlh
    intro w9 hlh
    have hl0 : LH w7 (fun _ => False) w9 [(b14, Obj.cells ([str (r).id, str (r).tgt, .int .i64 (r).kind, .int .i64 (r).fro, .int .i64 (r).til, .int .i64 (r).read.op, str (r).read.name, .int .i64 (r).read.cmp, .int .i64 (r).read.num, kv, .int .i64 (r).known, .bool (r).fin, str (r).lifts] : List Value).toArray 28 (0, 0))] := hlh
    clear hlh
    have g8 : w9.heap[m8]? = some (.map es8 c8) := heap_ext hm8' (hx.trans hl0.done)
    have g9 : w9.heap[m9]? = some (.map es9 c9) := heap_ext hm9' (hx.trans hl0.done)
    have hin := him r.id
    have hff := hfm r.lifts
    -- idle
    refine o_nil (hK _ _ ?_)
    clear hK K
    refine wk_seq fun K hK => ?_
    refine wk_cut (α := Unit) [] (fun _ => [(0, .slice la l.length lc), (1, .int .i64 known), (5, .bool true), (8, .map (some m8)), (9, .map (some m9)), (11, .bool flag), (13, .int .i64 (i : Int)), (14, .pointer (some ⟨b14, 0, none⟩)), (15, .bool (Rul.idleB l known r))]) (fun _ w' => w' = w9) ?_ ?_
    · by_cases h6 : r.kind = 6
      · rw [decide_eq_true h6, Bool.true_and] at hidle
        repeat' (first | refine a_mov ?_ | refine a_asg ?_ | refine a_binN ?_ | refine a_notd ?_ | refine a_notb ?_ | refine a_nilc ?_ | refine a_fa ?_ | refine a_ext ?_ | refine a_lenv ?_ | refine a_lens ?_ | refine a_pick_t ?_ | refine a_pick_f ?_ | refine a_not ?_ | refine a_nilf ?_ | (refine o_nil (hK _ _ ?_); clear hK K) | refine wk_reg ?_ | refine wk_seq fun K hK => ?_ | (refine wk_skip (hK _ _ ?_); clear hK K) | (refine wk_label (hK _ _ ?_); clear hK K) | refine wk_scope ?_ | refine wk_block ?_ | refine wk_cond_t rfl ?_ | refine wk_cond_f rfl ?_ | (refine wk_exit ?_; (repeat (refine blockK_other rfl ?_)); refine blockK_same ?_; try ((repeat ((fail_if_success (refine hK _ _ ?_)); clear hK K)); refine hK _ _ ?_; clear hK K)) | (refine a_bin ?_ ?_ <;> intro _ <;> try (exfalso; omega)) | refine a_ld hl ?_ | (refine a_st hl ?_; clear hl; intro _ hl) | refine a_ix (fun _ => ?_) | refine o_load rfl rfl rfl (hl0.cell 0 rfl rfl) ?_ | (refine o_lookup r.lifts hmr2 g9 keyId rfl rfl rfl rfl rfl ?_; rw [hff]))
        exact o_nil ⟨(), ⟨rfl, rfl, rfl, rfl, rfl, rfl, rfl, rfl, by rw [hidle]; rfl, trivial⟩, rfl, rfl⟩
      · rw [decide_eq_false h6, Bool.false_and] at hidle
        repeat' (first | refine a_mov ?_ | refine a_asg ?_ | refine a_binN ?_ | refine a_notd ?_ | refine a_notb ?_ | refine a_nilc ?_ | refine a_fa ?_ | refine a_ext ?_ | refine a_lenv ?_ | refine a_lens ?_ | refine a_pick_t ?_ | refine a_pick_f ?_ | refine a_not ?_ | refine a_nilf ?_ | (refine o_nil (hK _ _ ?_); clear hK K) | refine wk_reg ?_ | refine wk_seq fun K hK => ?_ | (refine wk_skip (hK _ _ ?_); clear hK K) | (refine wk_label (hK _ _ ?_); clear hK K) | refine wk_scope ?_ | refine wk_block ?_ | refine wk_cond_t rfl ?_ | refine wk_cond_f rfl ?_ | (refine wk_exit ?_; (repeat (refine blockK_other rfl ?_)); refine blockK_same ?_; try ((repeat ((fail_if_success (refine hK _ _ ?_)); clear hK K)); refine hK _ _ ?_; clear hK K)) | (refine a_bin ?_ ?_ <;> intro _ <;> try (exfalso; omega)) | refine a_ld hl ?_ | (refine a_st hl ?_; clear hl; intro _ hl) | refine a_ix (fun _ => ?_) | refine o_load rfl rfl rfl (hl0.cell 0 rfl rfl) ?_)
        exact o_nil ⟨(), ⟨rfl, rfl, rfl, rfl, rfl, rfl, rfl, rfl, by rw [hidle]; rfl, trivial⟩, rfl, rfl⟩
    rintro - t w' hw'
    obtain rfl := hw'.symm
    refine hK _ _ ?_
    clear hK K hidle hff
    generalize Rul.idleB l known r = idle at *
    generalize hinb : Rul.inB a r.id = inb at *
    refine wk_seq fun K hK => ?_
    refine wk_cut (α := Unit) [] (fun _ => [(0, .slice la l.length lc), (1, .int .i64 known), (5, .bool true), (8, .map (some m8)), (9, .map (some m9)), (11, .bool flag), (13, .int .i64 (i : Int)), (14, .pointer (some ⟨b14, 0, none⟩))]) (fun _ w' => w' = w9) ?_ ?_
    · cases hfin : r.fin <;> cases idle <;> cases inb <;> cases flag
      all_goals simp only [hfin] at hl0
      all_goals repeat' (first | refine a_mov ?_ | refine a_asg ?_ | refine a_binN ?_ | refine a_notd ?_ | refine a_notb ?_ | refine a_nilc ?_ | refine a_fa ?_ | refine a_ext ?_ | refine a_lenv ?_ | refine a_lens ?_ | refine a_pick_t ?_ | refine a_pick_f ?_ | refine a_not ?_ | refine a_nilf ?_ | (refine o_nil (hK _ _ ?_); clear hK K) | refine wk_reg ?_ | refine wk_seq fun K hK => ?_ | (refine wk_skip (hK _ _ ?_); clear hK K) | (refine wk_label (hK _ _ ?_); clear hK K) | refine wk_scope ?_ | refine wk_block ?_ | refine wk_cond_t rfl ?_ | refine wk_cond_f rfl ?_ | (refine wk_exit ?_; (repeat (refine blockK_other rfl ?_)); refine blockK_same ?_; try ((repeat ((fail_if_success (refine hK _ _ ?_)); clear hK K)); refine hK _ _ ?_; clear hK K)) | (refine a_bin ?_ ?_ <;> intro _ <;> try (exfalso; omega)) | refine a_ld hl ?_ | (refine a_st hl ?_; clear hl; intro _ hl) | refine a_ix (fun _ => ?_) | refine o_load rfl rfl rfl (hl0.cell 0 rfl rfl) ?_ | (refine o_lookup r.id hmr g8 keyId rfl rfl rfl rfl rfl ?_; rw [hin]) | refine o_neB rfl rfl rfl rfl ?_)
      all_goals first
        | exact wk_skip ⟨(), ⟨rfl, rfl, rfl, rfl, rfl, rfl, rfl, rfl, trivial⟩, rfl, rfl⟩
        | (exfalso; first
          | exact absurd (law2 rfl) (by decide)
          | (have h := (law1 hfin).1 rfl; first | omega | (cases h.2; done))
          | (have h := (law1 hfin).2 ⟨by omega, rfl⟩; cases h; done)
          | (have h := (law3 rfl).1 rfl; omega)
          | (have h := (law3 rfl).2 (by omega); cases h; done))
    rintro - t w' hw'
    obtain rfl := hw'.symm
    refine hK _ _ ?_
    clear hK K law1 law2 law3
    repeat' (first | refine a_mov ?_ | refine a_asg ?_ | refine a_binN ?_ | refine a_notd ?_ | refine a_notb ?_ | refine a_nilc ?_ | refine a_fa ?_ | refine a_ext ?_ | refine a_lenv ?_ | refine a_lens ?_ | refine a_pick_t ?_ | refine a_pick_f ?_ | refine a_not ?_ | refine a_nilf ?_ | (refine o_nil (hK _ _ ?_); clear hK K) | refine wk_reg ?_ | refine wk_seq fun K hK => ?_ | (refine wk_skip (hK _ _ ?_); clear hK K) | (refine wk_label (hK _ _ ?_); clear hK K) | refine wk_scope ?_ | refine wk_block ?_ | refine wk_cond_t rfl ?_ | refine wk_cond_f rfl ?_ | (refine wk_exit ?_; (repeat (refine blockK_other rfl ?_)); refine blockK_same ?_; try ((repeat ((fail_if_success (refine hK _ _ ?_)); clear hK K)); refine hK _ _ ?_; clear hK K)) | (refine a_bin ?_ ?_ <;> intro _ <;> try (exfalso; omega)) | refine a_ld hl ?_ | (refine a_st hl ?_; clear hl; intro _ hl) | refine a_ix (fun _ => ?_) | fail)
    refine wk_loopH [] rfl (fun q : Nat => [(0, .slice la l.length lc), (1, .int .i64 known), (5, .bool true), (8, .map (some m8)), (9, .map (some m9)), (11, .bool flag), (13, .int .i64 (i : Int)), (14, .pointer (some ⟨b14, 0, none⟩)), (16, .int .i64 (q : Int))])
      (fun q w' => q ≤ i ∧ Ext w9 w') (fun q => i - q) 0 ⟨rfl, rfl, rfl, rfl, rfl, rfl, rfl, rfl, rfl, trivial⟩ ⟨Nat.zero_le _, .refl _ _⟩ ?_
    rintro k t w10 ⟨hk, hy⟩
    have hxx := (hx.trans hl0.done).trans hy
    by_cases hk1 : k < i
    · obtain ⟨bk, ok, kvk, hpk, hrk, -⟩ := (L.ext hxx).at (show k < l.length by omega)
      have law5 := law4 k hk1
      have him2 := him l[k].id
      generalize l[k] = y at *
      have y0 : Row w10 bk (ok + k * 13) [str y.id] := fun k v hv => hrk k v (by cases k with | zero => exact hv | succ k => simp at hv)
      have r14 : Row w10 b14 0 [str r.id, str r.tgt, .int .i64 r.kind] := fun k v hv => (hl0.rowL (vs := [str (r).id, str (r).tgt, .int .i64 (r).kind, .int .i64 (r).fro, .int .i64 (r).til, .int .i64 (r).read.op, str (r).read.name, .int .i64 (r).read.cmp, .int .i64 (r).read.num, kv, .int .i64 (r).known, .bool (r).fin, str (r).lifts]) 0 0 13 rfl).ext hy k v (by match k, hv with | 0, hv => exact hv | 1, hv => exact hv | 2, hv => exact hv)
      have r12 : Row w10 b14 (0 + 12) [str r.lifts] := Row.sub5 ((hl0.rowL (vs := [str (r).id, str (r).tgt, .int .i64 (r).kind, .int .i64 (r).fro, .int .i64 (r).til, .int .i64 (r).read.op, str (r).read.name, .int .i64 (r).read.cmp, .int .i64 (r).read.num, kv, .int .i64 (r).known, .bool (r).fin, str (r).lifts]) 0 0 13 rfl).ext hy) rfl
      have g8' : ∀ w', To w10 w' w10.heap → w'.heap[m8]? = some (.map es8 c8) := fun w' hw' => by rw [hw'.1]; exact heap_ext hm8' hxx
      have done : ∀ w', To w10 w' w10.heap → k + 1 ≤ i ∧ Ext w9 w' := fun w' hw' => ⟨hk1, hy.trans (Upd.of_heap hw')⟩
      by_cases h6 : r.kind = 6
      · cases inb
        · repeat' (first | refine a_mov ?_ | refine a_asg ?_ | refine a_binN ?_ | refine a_notd ?_ | refine a_notb ?_ | refine a_nilc ?_ | refine a_fa ?_ | refine a_ext ?_ | refine a_lenv ?_ | refine a_lens ?_ | refine a_pick_t ?_ | refine a_pick_f ?_ | refine a_not ?_ | refine a_nilf ?_ | (refine o_nil (hK _ _ ?_); clear hK K) | refine wk_reg ?_ | refine wk_seq fun K hK => ?_ | (refine wk_skip (hK _ _ ?_); clear hK K) | (refine wk_label (hK _ _ ?_); clear hK K) | refine wk_scope ?_ | refine wk_block ?_ | refine wk_cond_t rfl ?_ | refine wk_cond_f rfl ?_ | (refine wk_exit ?_; (repeat (refine blockK_other rfl ?_)); refine blockK_same ?_; try ((repeat ((fail_if_success (refine hK _ _ ?_)); clear hK K)); refine hK _ _ ?_; clear hK K)) | (refine a_bin ?_ ?_ <;> intro _ <;> try (exfalso; omega)) | refine a_ld hl ?_ | (refine a_st hl ?_; clear hl; intro _ hl) | refine a_ix (fun _ => ?_) | fail)
          refine wk_draw [0, 1, 2, 3, 4, 5, 6, 7, 8, 9, 10, 11, 12, 13, 14, 15, 16, 17, 18, 19, 20, 21, 22, 23, 24, 25, 26, 27] [] [] (fun w' => To w10 w' w10.heap) (fun _ => True) rfl (by kernel_rfl) (fun _ _ _ _ h => by first | exact h | (simp only [BlockK, NoGoto, RetQ] at h)) (fun _ h => h) (fun _ _ => trivial) ?_
          repeat' (first | refine q_mov ?_ | refine q_asg ?_ | refine q_fa ?_ | refine q_ext ?_ | refine q_binN ?_ | refine q_notd ?_ | refine q_notb ?_ | refine q_pick_t ?_ | refine q_pick_f ?_ | refine q_nilc ?_ | refine q_skip ?_ | refine q_lens ?_ | refine q_lenv ?_ | refine q_nil ?_ | refine q_ix (fun _ => ?_) | (refine q_bin ?_ ?_ <;> intro _ <;> try (exfalso; omega)) | refine q_row (fun w_ hw_ => r14.heap hw_) ?_ | (refine q_val rfl rfl rfl rfl (fun w_ hw_ => r_lookup (z := .bool false) r.id rfl keyId hmr rfl rfl rfl (g8' w_ hw_)) ?_; rw [hin]))
          intro w11 hw11
          refine ops_nil (hK _ _ ?_)
          clear hK K
          repeat' (first | refine a_mov ?_ | refine a_asg ?_ | refine a_binN ?_ | refine a_notd ?_ | refine a_notb ?_ | refine a_nilc ?_ | refine a_fa ?_ | refine a_ext ?_ | refine a_lenv ?_ | refine a_lens ?_ | refine a_pick_t ?_ | refine a_pick_f ?_ | refine a_not ?_ | refine a_nilf ?_ | (refine o_nil (hK _ _ ?_); clear hK K) | refine wk_reg ?_ | refine wk_seq fun K hK => ?_ | (refine wk_skip (hK _ _ ?_); clear hK K) | (refine wk_label (hK _ _ ?_); clear hK K) | refine wk_scope ?_ | refine wk_block ?_ | refine wk_cond_t rfl ?_ | refine wk_cond_f rfl ?_ | (refine wk_exit ?_; (repeat (refine blockK_other rfl ?_)); refine blockK_same ?_; try ((repeat ((fail_if_success (refine hK _ _ ?_)); clear hK K)); refine hK _ _ ?_; clear hK K)) | (refine a_bin ?_ ?_ <;> intro _ <;> try (exfalso; omega)) | refine a_ld hl ?_ | (refine a_st hl ?_; clear hl; intro _ hl) | refine a_ix (fun _ => ?_) | fail)
          exact o_nil ⟨k + 1, ⟨rfl, rfl, rfl, rfl, rfl, rfl, rfl, rfl, rfl, trivial⟩, rfl, done _ hw11, by omega⟩
        · by_cases hyl : y.id = r.lifts
          · rw [law5 h6 rfl hyl] at him2
            repeat' (first | refine a_mov ?_ | refine a_asg ?_ | refine a_binN ?_ | refine a_notd ?_ | refine a_notb ?_ | refine a_nilc ?_ | refine a_fa ?_ | refine a_ext ?_ | refine a_lenv ?_ | refine a_lens ?_ | refine a_pick_t ?_ | refine a_pick_f ?_ | refine a_not ?_ | refine a_nilf ?_ | (refine o_nil (hK _ _ ?_); clear hK K) | refine wk_reg ?_ | refine wk_seq fun K hK => ?_ | (refine wk_skip (hK _ _ ?_); clear hK K) | (refine wk_label (hK _ _ ?_); clear hK K) | refine wk_scope ?_ | refine wk_block ?_ | refine wk_cond_t rfl ?_ | refine wk_cond_f rfl ?_ | (refine wk_exit ?_; (repeat (refine blockK_other rfl ?_)); refine blockK_same ?_; try ((repeat ((fail_if_success (refine hK _ _ ?_)); clear hK K)); refine hK _ _ ?_; clear hK K)) | (refine a_bin ?_ ?_ <;> intro _ <;> try (exfalso; omega)) | refine a_ld hl ?_ | (refine a_st hl ?_; clear hl; intro _ hl) | refine a_ix (fun _ => ?_) | fail)
            refine wk_draw [0, 1, 2, 3, 4, 5, 6, 7, 8, 9, 10, 11, 12, 13, 14, 15, 16, 17, 18, 19, 20, 21, 22, 23, 24, 25, 26, 27] [] [] (fun w' => To w10 w' w10.heap) (fun _ => True) rfl (by kernel_rfl) (fun _ _ _ _ h => by first | exact h | (simp only [BlockK, NoGoto, RetQ] at h)) (fun _ h => h) (fun _ _ => trivial) ?_
            repeat' (first | refine q_mov ?_ | refine q_asg ?_ | refine q_fa ?_ | refine q_ext ?_ | refine q_binN ?_ | refine q_notd ?_ | refine q_notb ?_ | refine q_pick_t ?_ | refine q_pick_f ?_ | refine q_nilc ?_ | refine q_skip ?_ | refine q_lens ?_ | refine q_lenv ?_ | refine q_nil ?_ | refine q_ix (fun _ => ?_) | (refine q_bin ?_ ?_ <;> intro _ <;> try (exfalso; omega)) | refine q_idx (c := 13) k hpk ?_ | refine q_row (fun w_ hw_ => r14.heap hw_) ?_ | refine q_row (fun w_ hw_ => r12.heap hw_) ?_ | refine q_row (fun w_ hw_ => y0.heap hw_) ?_ | (refine q_val rfl rfl rfl rfl (fun w_ hw_ => r_lookup (z := .bool false) r.id rfl keyId hmr rfl rfl rfl (g8' w_ hw_)) ?_; rw [hin]) | (refine q_val rfl rfl rfl rfl (fun w_ hw_ => r_lookup (z := .bool false) y.id rfl keyId hmr rfl rfl rfl (g8' w_ hw_)) ?_; rw [him2]) | (refine q_eqsT (a := y.id) (b := r.lifts) rfl rfl rfl rfl ?_ ?_ <;> intro h8))
            all_goals first | exact absurd hyl h8 | skip
            intro w11 hw11
            refine ops_nil (hK _ _ ?_)
            clear hK K
            repeat' (first | refine a_mov ?_ | refine a_asg ?_ | refine a_binN ?_ | refine a_notd ?_ | refine a_notb ?_ | refine a_nilc ?_ | refine a_fa ?_ | refine a_ext ?_ | refine a_lenv ?_ | refine a_lens ?_ | refine a_pick_t ?_ | refine a_pick_f ?_ | refine a_not ?_ | refine a_nilf ?_ | (refine o_nil (hK _ _ ?_); clear hK K) | refine wk_reg ?_ | refine wk_seq fun K hK => ?_ | (refine wk_skip (hK _ _ ?_); clear hK K) | (refine wk_label (hK _ _ ?_); clear hK K) | refine wk_scope ?_ | refine wk_block ?_ | refine wk_cond_t rfl ?_ | refine wk_cond_f rfl ?_ | (refine wk_exit ?_; (repeat (refine blockK_other rfl ?_)); refine blockK_same ?_; try ((repeat ((fail_if_success (refine hK _ _ ?_)); clear hK K)); refine hK _ _ ?_; clear hK K)) | (refine a_bin ?_ ?_ <;> intro _ <;> try (exfalso; omega)) | refine a_ld hl ?_ | (refine a_st hl ?_; clear hl; intro _ hl) | refine a_ix (fun _ => ?_) | fail)
            exact o_nil ⟨k + 1, ⟨rfl, rfl, rfl, rfl, rfl, rfl, rfl, rfl, rfl, trivial⟩, rfl, done _ hw11, by omega⟩
          · repeat' (first | refine a_mov ?_ | refine a_asg ?_ | refine a_binN ?_ | refine a_notd ?_ | refine a_notb ?_ | refine a_nilc ?_ | refine a_fa ?_ | refine a_ext ?_ | refine a_lenv ?_ | refine a_lens ?_ | refine a_pick_t ?_ | refine a_pick_f ?_ | refine a_not ?_ | refine a_nilf ?_ | (refine o_nil (hK _ _ ?_); clear hK K) | refine wk_reg ?_ | refine wk_seq fun K hK => ?_ | (refine wk_skip (hK _ _ ?_); clear hK K) | (refine wk_label (hK _ _ ?_); clear hK K) | refine wk_scope ?_ | refine wk_block ?_ | refine wk_cond_t rfl ?_ | refine wk_cond_f rfl ?_ | (refine wk_exit ?_; (repeat (refine blockK_other rfl ?_)); refine blockK_same ?_; try ((repeat ((fail_if_success (refine hK _ _ ?_)); clear hK K)); refine hK _ _ ?_; clear hK K)) | (refine a_bin ?_ ?_ <;> intro _ <;> try (exfalso; omega)) | refine a_ld hl ?_ | (refine a_st hl ?_; clear hl; intro _ hl) | refine a_ix (fun _ => ?_) | fail)
            refine wk_draw [0, 1, 2, 3, 4, 5, 6, 7, 8, 9, 10, 11, 12, 13, 14, 15, 16, 17, 18, 19, 20, 21, 22, 23, 24, 25, 26, 27] [] [] (fun w' => To w10 w' w10.heap) (fun _ => True) rfl (by kernel_rfl) (fun _ _ _ _ h => by first | exact h | (simp only [BlockK, NoGoto, RetQ] at h)) (fun _ h => h) (fun _ _ => trivial) ?_
            repeat' (first | refine q_mov ?_ | refine q_asg ?_ | refine q_fa ?_ | refine q_ext ?_ | refine q_binN ?_ | refine q_notd ?_ | refine q_notb ?_ | refine q_pick_t ?_ | refine q_pick_f ?_ | refine q_nilc ?_ | refine q_skip ?_ | refine q_lens ?_ | refine q_lenv ?_ | refine q_nil ?_ | refine q_ix (fun _ => ?_) | (refine q_bin ?_ ?_ <;> intro _ <;> try (exfalso; omega)) | refine q_idx (c := 13) k hpk ?_ | refine q_row (fun w_ hw_ => r14.heap hw_) ?_ | refine q_row (fun w_ hw_ => r12.heap hw_) ?_ | refine q_row (fun w_ hw_ => y0.heap hw_) ?_ | (refine q_val rfl rfl rfl rfl (fun w_ hw_ => r_lookup (z := .bool false) r.id rfl keyId hmr rfl rfl rfl (g8' w_ hw_)) ?_; rw [hin]) | (refine q_eqsT (a := y.id) (b := r.lifts) rfl rfl rfl rfl ?_ ?_ <;> intro h8))
            all_goals first | exact absurd h8 hyl | skip
            intro w11 hw11
            refine ops_nil (hK _ _ ?_)
            clear hK K
            repeat' (first | refine a_mov ?_ | refine a_asg ?_ | refine a_binN ?_ | refine a_notd ?_ | refine a_notb ?_ | refine a_nilc ?_ | refine a_fa ?_ | refine a_ext ?_ | refine a_lenv ?_ | refine a_lens ?_ | refine a_pick_t ?_ | refine a_pick_f ?_ | refine a_not ?_ | refine a_nilf ?_ | (refine o_nil (hK _ _ ?_); clear hK K) | refine wk_reg ?_ | refine wk_seq fun K hK => ?_ | (refine wk_skip (hK _ _ ?_); clear hK K) | (refine wk_label (hK _ _ ?_); clear hK K) | refine wk_scope ?_ | refine wk_block ?_ | refine wk_cond_t rfl ?_ | refine wk_cond_f rfl ?_ | (refine wk_exit ?_; (repeat (refine blockK_other rfl ?_)); refine blockK_same ?_; try ((repeat ((fail_if_success (refine hK _ _ ?_)); clear hK K)); refine hK _ _ ?_; clear hK K)) | (refine a_bin ?_ ?_ <;> intro _ <;> try (exfalso; omega)) | refine a_ld hl ?_ | (refine a_st hl ?_; clear hl; intro _ hl) | refine a_ix (fun _ => ?_) | fail)
            exact o_nil ⟨k + 1, ⟨rfl, rfl, rfl, rfl, rfl, rfl, rfl, rfl, rfl, trivial⟩, rfl, done _ hw11, by omega⟩
      · repeat' (first | refine a_mov ?_ | refine a_asg ?_ | refine a_binN ?_ | refine a_notd ?_ | refine a_notb ?_ | refine a_nilc ?_ | refine a_fa ?_ | refine a_ext ?_ | refine a_lenv ?_ | refine a_lens ?_ | refine a_pick_t ?_ | refine a_pick_f ?_ | refine a_not ?_ | refine a_nilf ?_ | (refine o_nil (hK _ _ ?_); clear hK K) | refine wk_reg ?_ | refine wk_seq fun K hK => ?_ | (refine wk_skip (hK _ _ ?_); clear hK K) | (refine wk_label (hK _ _ ?_); clear hK K) | refine wk_scope ?_ | refine wk_block ?_ | refine wk_cond_t rfl ?_ | refine wk_cond_f rfl ?_ | (refine wk_exit ?_; (repeat (refine blockK_other rfl ?_)); refine blockK_same ?_; try ((repeat ((fail_if_success (refine hK _ _ ?_)); clear hK K)); refine hK _ _ ?_; clear hK K)) | (refine a_bin ?_ ?_ <;> intro _ <;> try (exfalso; omega)) | refine a_ld hl ?_ | (refine a_st hl ?_; clear hl; intro _ hl) | refine a_ix (fun _ => ?_) | fail)
        refine wk_draw [0, 1, 2, 3, 4, 5, 6, 7, 8, 9, 10, 11, 12, 13, 14, 15, 16, 17, 18, 19, 20, 21, 22, 23, 24, 25, 26, 27] [] [] (fun w' => To w10 w' w10.heap) (fun _ => True) rfl (by kernel_rfl) (fun _ _ _ _ h => by first | exact h | (simp only [BlockK, NoGoto, RetQ] at h)) (fun _ h => h) (fun _ _ => trivial) ?_
        repeat' (first | refine q_mov ?_ | refine q_asg ?_ | refine q_fa ?_ | refine q_ext ?_ | refine q_binN ?_ | refine q_notd ?_ | refine q_notb ?_ | refine q_pick_t ?_ | refine q_pick_f ?_ | refine q_nilc ?_ | refine q_skip ?_ | refine q_lens ?_ | refine q_lenv ?_ | refine q_nil ?_ | refine q_ix (fun _ => ?_) | (refine q_bin ?_ ?_ <;> intro _ <;> try (exfalso; omega)) | refine q_row (fun w_ hw_ => r14.heap hw_) ?_)
        intro w11 hw11
        refine ops_nil (hK _ _ ?_)
        clear hK K
        repeat' (first | refine a_mov ?_ | refine a_asg ?_ | refine a_binN ?_ | refine a_notd ?_ | refine a_notb ?_ | refine a_nilc ?_ | refine a_fa ?_ | refine a_ext ?_ | refine a_lenv ?_ | refine a_lens ?_ | refine a_pick_t ?_ | refine a_pick_f ?_ | refine a_not ?_ | refine a_nilf ?_ | (refine o_nil (hK _ _ ?_); clear hK K) | refine wk_reg ?_ | refine wk_seq fun K hK => ?_ | (refine wk_skip (hK _ _ ?_); clear hK K) | (refine wk_label (hK _ _ ?_); clear hK K) | refine wk_scope ?_ | refine wk_block ?_ | refine wk_cond_t rfl ?_ | refine wk_cond_f rfl ?_ | (refine wk_exit ?_; (repeat (refine blockK_other rfl ?_)); refine blockK_same ?_; try ((repeat ((fail_if_success (refine hK _ _ ?_)); clear hK K)); refine hK _ _ ?_; clear hK K)) | (refine a_bin ?_ ?_ <;> intro _ <;> try (exfalso; omega)) | refine a_ld hl ?_ | (refine a_st hl ?_; clear hl; intro _ hl) | refine a_ix (fun _ => ?_) | fail)
        exact o_nil ⟨k + 1, ⟨rfl, rfl, rfl, rfl, rfl, rfl, rfl, rfl, rfl, trivial⟩, rfl, done _ hw11, by omega⟩
    · repeat' (first | refine a_mov ?_ | refine a_asg ?_ | refine a_binN ?_ | refine a_notd ?_ | refine a_notb ?_ | refine a_nilc ?_ | refine a_fa ?_ | refine a_ext ?_ | refine a_lenv ?_ | refine a_lens ?_ | refine a_pick_t ?_ | refine a_pick_f ?_ | refine a_not ?_ | refine a_nilf ?_ | (refine o_nil (hK _ _ ?_); clear hK K) | refine wk_reg ?_ | refine wk_seq fun K hK => ?_ | (refine wk_skip (hK _ _ ?_); clear hK K) | (refine wk_label (hK _ _ ?_); clear hK K) | refine wk_scope ?_ | refine wk_block ?_ | refine wk_cond_t rfl ?_ | refine wk_cond_f rfl ?_ | (refine wk_exit ?_; (repeat (refine blockK_other rfl ?_)); refine blockK_same ?_; try ((repeat ((fail_if_success (refine hK _ _ ?_)); clear hK K)); refine hK _ _ ?_; clear hK K)) | (refine a_bin ?_ ?_ <;> intro _ <;> try (exfalso; omega)) | refine a_ld hl ?_ | (refine a_st hl ?_; clear hl; intro _ hl) | refine a_ix (fun _ => ?_) | fail)
      exact o_nil ⟨i + 1, ⟨rfl, rfl, rfl, rfl, rfl, rfl, rfl, trivial⟩, rfl, ⟨hi1, hxx⟩, by omega⟩
  · repeat' (first | refine a_mov ?_ | refine a_asg ?_ | refine a_binN ?_ | refine a_notd ?_ | refine a_notb ?_ | refine a_nilc ?_ | refine a_fa ?_ | refine a_ext ?_ | refine a_lenv ?_ | refine a_lens ?_ | refine a_pick_t ?_ | refine a_pick_f ?_ | refine a_not ?_ | refine a_nilf ?_ | (refine o_nil (hK _ _ ?_); clear hK K) | refine wk_reg ?_ | refine wk_seq fun K hK => ?_ | (refine wk_skip (hK _ _ ?_); clear hK K) | (refine wk_label (hK _ _ ?_); clear hK K) | refine wk_scope ?_ | refine wk_block ?_ | refine wk_cond_t rfl ?_ | refine wk_cond_f rfl ?_ | (refine wk_exit ?_; (repeat (refine blockK_other rfl ?_)); refine blockK_same ?_; try ((repeat ((fail_if_success (refine hK _ _ ?_)); clear hK K)); refine hK _ _ ?_; clear hK K)) | (refine a_bin ?_ ?_ <;> intro _ <;> try (exfalso; omega)) | refine a_ld hl ?_ | (refine a_st hl ?_; clear hl; intro _ hl) | refine a_ix (fun _ => ?_) | fail)
    refine wk_ret (retQ_tmp1 Try.results7 (by decide) rfl (by conv => lhs; whnf) ?_)
    exact ⟨rfl, he.trans hx⟩
end Go.Proofs
