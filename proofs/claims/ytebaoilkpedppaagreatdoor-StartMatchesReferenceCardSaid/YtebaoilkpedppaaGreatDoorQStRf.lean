/-
  The reference: happened, Status, holds, Holds.
-/
import Derived.Test.YtebaoilkpedppaaGreatDoorQStRe
import Derived.Test.YtebaoilkpedppaaGreatDoorQStAb
import Derived.Test.YtebaoilkpedppaaGreatDoorQLD
set_option linter.unusedVariables false
set_option linter.unusedSimpArgs false
set_option linter.unnecessarySimpa false
set_option maxRecDepth 10000
namespace Go.Sta
def hitB (day known : Int) (ev : Bool) (name : Tx) (x : Hap) : Bool := decide (x.event = ev ∧ x.name = name ∧ x.day ≤ day ∧ x.known ≤ known)
def stuR (l : List Stu) (id : Tx) : Stu := (stuOf l id).getD ⟨id, -1, -1, -1⟩
theorem stuOf_hit {l : List Stu} {id : Tx} {i : Nat} (hi : i < l.length) (hpre : ∀ x ∈ l.take i, x.id ≠ id) (h : l[i].id = id) : stuOf l id = some l[i] := by
  obtain ⟨x, hx⟩ : ∃ x, x = l[i] := ⟨_, rfl⟩
  rw [← hx] at h ⊢
  have e : l = l.take i ++ x :: l.drop (i + 1) := by rw [hx, ← List.drop_eq_getElem_cons hi, List.take_append_drop]
  have h1 : (l.take i).find? (fun x => decide (x.id = id)) = none := by
    rw [List.find?_eq_none]
    intro y hy
    simpa using hpre y hy
  unfold stuOf
  rw [e, List.find?_append, h1, Option.none_or, List.find?_cons_of_pos (by simpa using h)]
theorem stuOf_none {l : List Stu} {id : Tx} (h : ∀ x ∈ l, x.id ≠ id) : stuOf l id = none := by
  unfold stuOf
  rw [List.find?_eq_none]
  intro x hx
  simpa using h x hx
theorem reach_begin (day : Int) (l : List Stu) (id : Tx) : reach day ((stuOf l id).map (·.begin_)) = decide (0 ≤ (stuR l id).begin_ ∧ (stuR l id).begin_ ≤ day) := by
  unfold stuR
  cases stuOf l id with
  | none => simp [reach]
  | some x => rfl
theorem reach_end (day : Int) (l : List Stu) (id : Tx) : reach day ((stuOf l id).map (·.end_)) = decide (0 ≤ (stuR l id).end_ ∧ (stuR l id).end_ ≤ day) := by
  unfold stuR
  cases stuOf l id with
  | none => simp [reach]
  | some x => rfl
end Go.Sta
namespace Go.Proofs
open Go Go.Pd Go.Sta
attribute [local irreducible] OpsL W RetQ OpsQ OpsC
set_option maxHeartbeats 2000000 in
theorem happened_calls {l : List Hap} {ev : Bool} {name : Tx} {day known : Int} {ha : Option Addr} {hc : Nat} {w : World} (hH : Sl w (.slice ha l.length hc) 4 (l.flatMap hapL)) (hn : l.length ≤ 140737488351232) :
    Calls Tryz.prog 76 #[.slice ha l.length hc, .bool ev, str name, .int .i64 day, .int .i64 known] w (fun e w' => ∃ v, e = .returned v ∧ v = .bool (l.any (hitB day known ev name)) ∧ w' = w) := by
  refine calls_of Tryz.func76 rfl Tryz.ntmps76 rfl ?_
  refine wk_seq fun K hK => ?_
  refine wk_reg ?_
  refine a_asg ?_
  refine o_nil (hK _ _ ?_)
  clear hK K
  refine wk_seq fun K hK => ?_
  refine wk_seq fun K2 hK2 => ?_
  refine wk_reg ?_
  refine a_asg ?_
  refine o_nil (hK2 _ _ ?_)
  clear hK2 K2
  refine wk_block ?_
  refine wk_loopH [] rfl (fun i : Nat => [(0, .slice ha l.length hc), (1, .bool ev), (2, str name), (3, .int .i64 day), (4, .int .i64 known), (11, .int .i64 (i : Int))]) (fun i w' => (i ≤ l.length ∧ (l.take i).any (hitB day known ev name) = false) ∧ w' = w) (fun i => l.length - i) 0 ⟨rfl, rfl, rfl, rfl, rfl, rfl, trivial⟩ ⟨⟨Nat.zero_le _, by simp⟩, rfl⟩ ?_
  rintro i t w1 ⟨⟨hi, hpre⟩, rfl⟩
  refine wk_seq fun K1 hK1 => ?_
  refine wk_seq fun K2 hK2 => ?_
  refine wk_reg ?_
  by_cases hi1 : i < l.length
  · obtain ⟨b, o, rfl, hr⟩ := hH.at (flat_length hapL_len l) (by omega) (by omega)
    have hri := hr.elem hapL_len (k := i) (t := l[i]) (by simp [hi1])
    have htk : l.take (i + 1) = l.take i ++ [l[i]] := List.take_succ_eq_append_getElem hi1
    have hmem := List.getElem_mem hi1
    generalize l[i] = x at hri htk hmem
    repeat' (first | refine a_mov ?_ | refine a_asg ?_ | refine a_binN ?_ | refine a_notd ?_ | refine a_notb ?_ | refine a_nilc ?_ | refine a_fa ?_ | refine a_ext ?_ | refine a_lenv ?_ | refine a_lens ?_ | refine a_pick_t ?_ | refine a_pick_f ?_ | refine a_not ?_ | refine a_nilf ?_ | (refine a_bin ?_ ?_ <;> intro _ <;> try (exfalso; omega)) | refine a_ld hl ?_ | (refine a_st hl ?_; clear hl; intro _ hl) | refine a_ix (fun _ => ?_) | fail)
    refine o_nil (hK2 _ _ ?_)
    clear hK2 K2
    refine wk_cond_t rfl ?_
    refine wk_skip (hK1 _ _ ?_)
    clear hK1 K1
    refine wk_seq fun K1 hK1 => ?_
    refine wk_block ?_
    refine wk_seq fun K2 hK2 => ?_
    refine wk_cut [] (fun _ : Unit => [(0, .slice (some ⟨b, o, none⟩) l.length hc), (1, .bool ev), (2, str name), (3, .int .i64 day), (4, .int .i64 known), (11, .int .i64 (i : Int)), (51, .bool (hitB day known ev name x))]) (fun _ w' => w' = w1) ?_ ?_
    · refine wk_reg ?_
      by_cases he : x.event = ev
      · have hbe : (x.event == ev) = true := by simp [he]
        by_cases hne : x.name = name
        · repeat' (first | refine a_mov ?_ | refine a_asg ?_ | refine a_binN ?_ | refine a_notd ?_ | refine a_notb ?_ | refine a_nilc ?_ | refine a_fa ?_ | refine a_ext ?_ | refine a_lenv ?_ | refine a_lens ?_ | refine a_pick_t ?_ | refine a_pick_f ?_ | refine a_not ?_ | refine a_nilf ?_ | (refine a_bin ?_ ?_ <;> intro _ <;> try (exfalso; omega)) | refine a_ld hl ?_ | (refine a_st hl ?_; clear hl; intro _ hl) | refine a_ix (fun _ => ?_) | refine a_idx (c := 4) i rfl ?_ | refine a_row hri ?_ | (refine o_eqB rfl rfl rfl rfl ?_; rw [hbe]) | refine o_eqsT (a := x.name) (b := name) rfl rfl rfl (fun _ => ?_) (fun h_ => absurd hne h_) | fail)
          all_goals
            refine o_nil ⟨(), ⟨rfl, rfl, rfl, rfl, rfl, rfl, ?_, trivial⟩, rfl, rfl⟩
            unfold hitB
            first
              | rw [decide_eq_true ⟨he, hne, by omega, by omega⟩]; rfl
              | rw [decide_eq_false (fun h => by omega)]; rfl
        · have hB : hitB day known ev name x = false := by unfold hitB; rw [decide_eq_false (fun h => hne h.2.1)]
          repeat' (first | refine a_mov ?_ | refine a_asg ?_ | refine a_binN ?_ | refine a_notd ?_ | refine a_notb ?_ | refine a_nilc ?_ | refine a_fa ?_ | refine a_ext ?_ | refine a_lenv ?_ | refine a_lens ?_ | refine a_pick_t ?_ | refine a_pick_f ?_ | refine a_not ?_ | refine a_nilf ?_ | (refine a_bin ?_ ?_ <;> intro _ <;> try (exfalso; omega)) | refine a_ld hl ?_ | (refine a_st hl ?_; clear hl; intro _ hl) | refine a_ix (fun _ => ?_) | refine a_idx (c := 4) i rfl ?_ | refine a_row hri ?_ | (refine o_eqB rfl rfl rfl rfl ?_; rw [hbe]) | refine o_eqsT (a := x.name) (b := name) rfl rfl rfl (fun h_ => absurd h_ hne) (fun _ => ?_) | fail)
          all_goals
            rw [hB]
            exact o_nil ⟨(), ⟨rfl, rfl, rfl, rfl, rfl, rfl, rfl, trivial⟩, rfl, rfl⟩
      · have hB : hitB day known ev name x = false := by unfold hitB; rw [decide_eq_false (fun h => he h.1)]
        have hbe : (x.event == ev) = false := by simp [he]
        repeat' (first | refine a_mov ?_ | refine a_asg ?_ | refine a_binN ?_ | refine a_notd ?_ | refine a_notb ?_ | refine a_nilc ?_ | refine a_fa ?_ | refine a_ext ?_ | refine a_lenv ?_ | refine a_lens ?_ | refine a_pick_t ?_ | refine a_pick_f ?_ | refine a_not ?_ | refine a_nilf ?_ | (refine a_bin ?_ ?_ <;> intro _ <;> try (exfalso; omega)) | refine a_ld hl ?_ | (refine a_st hl ?_; clear hl; intro _ hl) | refine a_ix (fun _ => ?_) | refine a_idx (c := 4) i rfl ?_ | refine a_row hri ?_ | (refine o_eqB rfl rfl rfl rfl ?_; rw [hbe]) | fail)
        all_goals
          rw [hB]
          exact o_nil ⟨(), ⟨rfl, rfl, rfl, rfl, rfl, rfl, rfl, trivial⟩, rfl, rfl⟩
    rintro _ t w1 rfl
    refine hK2 _ _ ?_
    clear hK2 K2
    cases hB : hitB day known ev name x
    · refine wk_cond_f rfl ?_
      refine wk_skip (hK1 _ _ ?_)
      clear hK1 K1
      refine wk_reg ?_
      repeat' (first | refine a_mov ?_ | refine a_asg ?_ | refine a_binN ?_ | refine a_notd ?_ | refine a_notb ?_ | refine a_nilc ?_ | refine a_fa ?_ | refine a_ext ?_ | refine a_lenv ?_ | refine a_lens ?_ | refine a_pick_t ?_ | refine a_pick_f ?_ | refine a_not ?_ | refine a_nilf ?_ | (refine a_bin ?_ ?_ <;> intro _ <;> try (exfalso; omega)) | refine a_ld hl ?_ | (refine a_st hl ?_; clear hl; intro _ hl) | refine a_ix (fun _ => ?_) | fail)
      refine o_nil ⟨i + 1, ⟨rfl, rfl, rfl, rfl, rfl, rfl, trivial⟩, rfl, ⟨⟨hi1, ?_⟩, rfl⟩, by omega⟩
      rw [htk, List.any_append, hpre]
      simp [hB]
    · refine wk_cond_t rfl ?_
      refine wk_seq fun K2 hK2 => ?_
      refine wk_reg ?_
      refine a_asg ?_
      refine o_nil (hK2 _ _ ?_)
      refine wk_ret (retQ_tmp1 Tryz.results76 (by decide) rfl (by conv => lhs; whnf) ?_)
      refine ⟨?_, rfl⟩
      have : l.any (hitB day known ev name) = true := by rw [List.any_eq_true]; exact ⟨x, hmem, hB⟩
      rw [this]
  · obtain rfl : i = l.length := by omega
    rw [List.take_length] at hpre
    repeat' (first | refine a_mov ?_ | refine a_asg ?_ | refine a_binN ?_ | refine a_notd ?_ | refine a_notb ?_ | refine a_nilc ?_ | refine a_fa ?_ | refine a_ext ?_ | refine a_lenv ?_ | refine a_lens ?_ | refine a_pick_t ?_ | refine a_pick_f ?_ | refine a_not ?_ | refine a_nilf ?_ | (refine a_bin ?_ ?_ <;> intro _ <;> try (exfalso; omega)) | refine a_ld hl ?_ | (refine a_st hl ?_; clear hl; intro _ hl) | refine a_ix (fun _ => ?_) | fail)
    refine o_nil (hK2 _ _ ?_)
    clear hK2 K2
    refine wk_cond_f rfl ?_
    refine wk_exit ?_
    refine blockK_same ?_
    refine hK _ _ ?_
    clear hK1 K1
    clear hK K
    refine wk_seq fun K hK => ?_
    refine wk_reg ?_
    refine a_asg ?_
    refine o_nil (hK _ _ ?_)
    refine wk_ret (retQ_tmp1 Tryz.results76 (by decide) rfl (by conv => lhs; whnf) ?_)
    rw [hpre]
    exact ⟨rfl, rfl⟩
set_option maxHeartbeats 2000000 in
theorem statusR_calls {l : List Stu} {id : Tx} {ha : Option Addr} {hc : Nat} {w : World} (hH : Sl w (.slice ha l.length hc) 4 (l.flatMap stuL)) (hn : l.length ≤ 140737488351232) :
    Calls Tryz.prog 77 #[.slice ha l.length hc, str id] w (fun e w' => ∃ v, e = .returned v ∧ v = .agg (stuL (stuR l id)).toArray ∧ Ext w w') := by
  refine calls_of Tryz.func77 rfl Tryz.ntmps77 rfl ?_
  refine wk_seq fun K hK => ?_
  refine wk_reg ?_
  refine o_alloc (LH.start w (fun _ => False)) [.string "".toByteArray, .int .i64 0, .int .i64 0, .int .i64 0] (by kernel_rfl) rfl ?_
  intro b4 w1 hb4 hl
  refine o_nil (hK _ _ ?_)
  clear hK K
  have hH1 := hH.ext hl.done
  refine wk_seq fun K hK => ?_
  refine wk_seq fun K2 hK2 => ?_
  refine wk_reg ?_
  refine a_asg ?_
  refine o_nil (hK2 _ _ ?_)
  clear hK2 K2
  refine wk_block ?_
  refine wk_loopH [] rfl (fun i : Nat => [(0, .slice ha l.length hc), (1, str id), (4, .pointer (some ⟨b4, 0, none⟩)), (5, .int .i64 (i : Int))]) (fun i w' => (i ≤ l.length ∧ ∀ x ∈ l.take i, x.id ≠ id) ∧ w' = w1) (fun i => l.length - i) 0 ⟨rfl, rfl, rfl, rfl, trivial⟩ ⟨⟨Nat.zero_le _, by simp⟩, rfl⟩ ?_
  rintro i t w1 ⟨⟨hi, hpre⟩, rfl⟩
  refine wk_seq fun K1 hK1 => ?_
  refine wk_seq fun K2 hK2 => ?_
  refine wk_reg ?_
  by_cases hi1 : i < l.length
  · obtain ⟨b, o, rfl, hr⟩ := hH1.at (flat_length stuL_len l) (by omega) (by omega)
    have hri := hr.elem stuL_len (k := i) (t := l[i]) (by simp [hi1])
    repeat' (first | refine a_mov ?_ | refine a_asg ?_ | refine a_binN ?_ | refine a_notd ?_ | refine a_notb ?_ | refine a_nilc ?_ | refine a_fa ?_ | refine a_ext ?_ | refine a_lenv ?_ | refine a_lens ?_ | refine a_pick_t ?_ | refine a_pick_f ?_ | refine a_not ?_ | refine a_nilf ?_ | (refine a_bin ?_ ?_ <;> intro _ <;> try (exfalso; omega)) | refine a_ld hl ?_ | (refine a_st hl ?_; clear hl; intro _ hl) | refine a_ix (fun _ => ?_) | fail)
    refine o_nil (hK2 _ _ ?_)
    clear hK2 K2
    refine wk_cond_t rfl ?_
    refine wk_skip (hK1 _ _ ?_)
    clear hK1 K1
    refine wk_seq fun K1 hK1 => ?_
    refine wk_block ?_
    refine wk_seq fun K2 hK2 => ?_
    refine wk_reg ?_
    by_cases he : l[i].id = id
    · have hst : stuR l id = l[i] := by unfold stuR; rw [stuOf_hit hi1 hpre he]; rfl
      repeat' (first | refine a_mov ?_ | refine a_asg ?_ | refine a_binN ?_ | refine a_notd ?_ | refine a_notb ?_ | refine a_nilc ?_ | refine a_fa ?_ | refine a_ext ?_ | refine a_lenv ?_ | refine a_lens ?_ | refine a_pick_t ?_ | refine a_pick_f ?_ | refine a_not ?_ | refine a_nilf ?_ | (refine a_bin ?_ ?_ <;> intro _ <;> try (exfalso; omega)) | refine a_ld hl ?_ | (refine a_st hl ?_; clear hl; intro _ hl) | refine a_ix (fun _ => ?_) | refine a_idx (c := 4) i rfl ?_ | refine a_row hri ?_ | refine o_eqsT (a := l[i].id) (b := id) rfl rfl rfl (fun _ => ?_) (fun h_ => absurd he h_) | fail)
      refine o_nil (hK2 _ _ ?_)
      clear hK2 K2
      refine wk_cond_t rfl ?_
      refine wk_seq fun K2 hK2 => ?_
      refine wk_reg ?_
      repeat' (first | refine a_mov ?_ | refine a_asg ?_ | refine a_binN ?_ | refine a_notd ?_ | refine a_notb ?_ | refine a_nilc ?_ | refine a_fa ?_ | refine a_ext ?_ | refine a_lenv ?_ | refine a_lens ?_ | refine a_pick_t ?_ | refine a_pick_f ?_ | refine a_not ?_ | refine a_nilf ?_ | (refine a_bin ?_ ?_ <;> intro _ <;> try (exfalso; omega)) | refine a_ld hl ?_ | (refine a_st hl ?_; clear hl; intro _ hl) | refine a_ix (fun _ => ?_) | refine a_idx (c := 4) i rfl ?_ | refine a_all hri ?_ | fail)
      refine o_putN (us := stuL l[i]) hl rfl rfl rfl (by simp only [stuL, List.all_cons, List.all_nil, oneCell_str]; rfl) rfl (.here rfl rfl) ?_
      clear hl
      intro w2 hl
      refine o_nil (hK2 _ _ ?_)
      refine wk_ret (retQ_res [.agg (stuL l[i]).toArray] rfl rfl ⟨by decide, ⟨⟨b4, 0, none⟩, rfl, run_loadVarN rfl rfl (hl.rowL (vs := stuL l[i]) 0 0 4 rfl)⟩, trivial⟩ ?_)
      rw [hst]
      exact ⟨rfl, hl.done⟩
    · repeat' (first | refine a_mov ?_ | refine a_asg ?_ | refine a_binN ?_ | refine a_notd ?_ | refine a_notb ?_ | refine a_nilc ?_ | refine a_fa ?_ | refine a_ext ?_ | refine a_lenv ?_ | refine a_lens ?_ | refine a_pick_t ?_ | refine a_pick_f ?_ | refine a_not ?_ | refine a_nilf ?_ | (refine a_bin ?_ ?_ <;> intro _ <;> try (exfalso; omega)) | refine a_ld hl ?_ | (refine a_st hl ?_; clear hl; intro _ hl) | refine a_ix (fun _ => ?_) | refine a_idx (c := 4) i rfl ?_ | refine a_row hri ?_ | refine o_eqsT (a := l[i].id) (b := id) rfl rfl rfl (fun h_ => absurd h_ he) (fun _ => ?_) | fail)
      refine o_nil (hK2 _ _ ?_)
      clear hK2 K2
      refine wk_cond_f rfl ?_
      refine wk_skip (hK1 _ _ ?_)
      clear hK1 K1
      refine wk_reg ?_
      repeat' (first | refine a_mov ?_ | refine a_asg ?_ | refine a_binN ?_ | refine a_notd ?_ | refine a_notb ?_ | refine a_nilc ?_ | refine a_fa ?_ | refine a_ext ?_ | refine a_lenv ?_ | refine a_lens ?_ | refine a_pick_t ?_ | refine a_pick_f ?_ | refine a_not ?_ | refine a_nilf ?_ | (refine a_bin ?_ ?_ <;> intro _ <;> try (exfalso; omega)) | refine a_ld hl ?_ | (refine a_st hl ?_; clear hl; intro _ hl) | refine a_ix (fun _ => ?_) | fail)
      refine o_nil ⟨i + 1, ⟨rfl, rfl, rfl, rfl, trivial⟩, rfl, ⟨⟨hi1, fun x hx => ?_⟩, rfl⟩, by omega⟩
      rw [List.take_succ_eq_append_getElem hi1] at hx
      rcases List.mem_append.1 hx with hx | hx
      · exact hpre x hx
      · rw [List.mem_singleton.1 hx]; exact he
  · obtain rfl : i = l.length := by omega
    rw [List.take_length] at hpre
    have hst : stuR l id = ⟨id, -1, -1, -1⟩ := by unfold stuR; rw [stuOf_none hpre]; rfl
    repeat' (first | refine a_mov ?_ | refine a_asg ?_ | refine a_binN ?_ | refine a_notd ?_ | refine a_notb ?_ | refine a_nilc ?_ | refine a_fa ?_ | refine a_ext ?_ | refine a_lenv ?_ | refine a_lens ?_ | refine a_pick_t ?_ | refine a_pick_f ?_ | refine a_not ?_ | refine a_nilf ?_ | (refine a_bin ?_ ?_ <;> intro _ <;> try (exfalso; omega)) | refine a_ld hl ?_ | (refine a_st hl ?_; clear hl; intro _ hl) | refine a_ix (fun _ => ?_) | fail)
    refine o_nil (hK2 _ _ ?_)
    clear hK2 K2
    refine wk_cond_f rfl ?_
    refine wk_exit ?_
    refine blockK_same ?_
    refine hK _ _ ?_
    clear hK1 K1
    clear hK K
    refine wk_seq fun K hK => ?_
    refine wk_reg ?_
    refine a_mov ?_
    refine o_build (stuL ⟨id, -1, -1, -1⟩) rfl (by simp only [stuL, str_eq]; kernel_rfl) ?_
    refine o_putN (us := stuL ⟨id, -1, -1, -1⟩) hl rfl rfl rfl (by simp only [stuL, List.all_cons, List.all_nil, oneCell_str]; rfl) rfl (.here rfl rfl) ?_
    clear hl
    intro w2 hl
    refine o_nil (hK _ _ ?_)
    refine wk_ret (retQ_res [.agg (stuL ⟨id, -1, -1, -1⟩).toArray] rfl rfl ⟨by decide, ⟨⟨b4, 0, none⟩, rfl, run_loadVarN rfl rfl (hl.rowL (vs := stuL ⟨id, -1, -1, -1⟩) 0 0 4 rfl)⟩, trivial⟩ ?_)
    rw [hst]
    exact ⟨rfl, hl.done⟩
set_option maxHeartbeats 8000000 in
theorem holdsIn_calls {E : Env} {ha la : Option Addr} {hc lc : Nat} (hn1 : E.h.length ≤ 140737488351232) (hn2 : E.l.length ≤ 140737488351232) : ∀ (s : Sn) (w : World) (kv : Value), okB s = true → fitS s → KA w s.kids kv → Sl w (.slice ha E.h.length hc) 4 (E.h.flatMap hapL) → Sl w (.slice la E.l.length lc) 4 (E.l.flatMap stuL) → Calls Tryz.prog 43 #[.agg (snL s kv).toArray, .int .i64 E.day, .slice ha E.h.length hc, .int .i64 E.known, .slice la E.l.length lc] w (fun e w' => ∃ v, e = .returned v ∧ v = .bool (hol E s) ∧ Ext w w') := Sn.ind fun s ih => by
  intro w kv hokS hfit hk hH hL
  obtain ⟨ka, kc, rfl, -⟩ := hk.shape
  obtain ⟨hf1, hf2, hkf⟩ := (fitS_eq s).1 hfit
  have hhe := hol_eq E s
  have hok : ∀ k ∈ s.kids, okB k = true := by
    have := okB_eq s
    rw [hokS, okL_all] at this
    have h2 := this.symm
    rw [Bool.and_eq_true, List.all_eq_true] at h2
    exact h2.2
  refine calls_of Tryz.func43 rfl Tryz.ntmps43 rfl ?_
  refine wk_seq fun K hK => ?_
  refine wk_reg ?_
  refine o_box (LH.start w (fun _ => False)) (snL s (.slice ka s.kids.length kc)) rfl rfl rfl ?_
  intro b5 w1 hb5 hl
  have hr : Row w1 b5 0 (snL s (.slice ka s.kids.length kc)) := hl.rowL (vs := snL s (.slice ka s.kids.length kc)) 0 0 4 rfl
  have hx1 := hl.done
  clear hl
  refine a_asg ?_
  refine o_nil (hK _ _ ?_)
  clear hK K
  refine wk_seq fun K hK => ?_
  refine wk_seq fun K2 hK2 => ?_
  refine wk_reg ?_
  refine a_fa ?_
  refine a_row hr ?_
  refine o_nil (hK2 _ _ ?_)
  clear hK2 K2
  refine wk_block ?_
  have hl : LH w1 (fun _ => False) w1 [] := LH.start _ _
  have hcs : s.op = 1 ∨ s.op = 3 ∨ s.op = 4 ∨ s.op = 5 ∨ s.op = 6 ∨ s.op = 7 ∨ s.op = 8 ∨ s.op = 9 ∨ (s.op = 2 ∧ s.kids = []) := by
    rcases node_cases hokS with ⟨h, -⟩ | ⟨h, h2, h3, -, h5, -⟩ | ⟨h1, h2, -⟩ | ⟨h, -⟩
    · omega
    · by_cases h1 : s.op = 1
      · exact .inl h1
      · have : s.op = 2 := by omega
        exact .inr (.inr (.inr (.inr (.inr (.inr (.inr (.inr ⟨this, h5⟩)))))))
    · omega
    · rcases h with h | h <;> omega
  rcases hcs with h | h | h | h | h | h | h | h | ⟨h, hnk⟩
  · rw [if_pos h] at hhe
    repeat' (first | refine a_mov ?_ | refine a_asg ?_ | refine a_binN ?_ | refine a_notd ?_ | refine a_notb ?_ | refine a_nilc ?_ | refine a_fa ?_ | refine a_ext ?_ | refine a_lenv ?_ | refine a_lens ?_ | refine a_pick_t ?_ | refine a_pick_f ?_ | refine a_not ?_ | refine a_nilf ?_ | (refine o_nil (hK _ _ ?_); clear hK K) | refine wk_reg ?_ | refine wk_seq fun K hK => ?_ | (refine wk_skip (hK _ _ ?_); clear hK K) | (refine wk_label (hK _ _ ?_); clear hK K) | refine wk_scope ?_ | refine wk_block ?_ | refine wk_cond_t rfl ?_ | refine wk_cond_f rfl ?_ | (refine wk_exit ?_; (repeat (refine blockK_other rfl ?_)); refine blockK_same ?_; try ((repeat ((fail_if_success (refine hK _ _ ?_)); clear hK K)); refine hK _ _ ?_; clear hK K)) | (refine a_bin ?_ ?_ <;> intro _ <;> try (exfalso; omega)) | refine a_ld hl ?_ | (refine a_st hl ?_; clear hl; intro _ hl) | refine a_ix (fun _ => ?_) | refine a_row hr ?_ | fail)
    refine wk_ret (retQ_tmp1 Tryz.results43 (by decide) rfl (by conv => lhs; whnf) ?_)
    rw [hhe]
    exact ⟨rfl, hx1⟩
  · rw [if_neg (by omega), if_pos h] at hhe
    repeat' (first | refine a_mov ?_ | refine a_asg ?_ | refine a_binN ?_ | refine a_notd ?_ | refine a_notb ?_ | refine a_nilc ?_ | refine a_fa ?_ | refine a_ext ?_ | refine a_lenv ?_ | refine a_lens ?_ | refine a_pick_t ?_ | refine a_pick_f ?_ | refine a_not ?_ | refine a_nilf ?_ | (refine o_nil (hK _ _ ?_); clear hK K) | refine wk_reg ?_ | refine wk_seq fun K hK => ?_ | (refine wk_skip (hK _ _ ?_); clear hK K) | (refine wk_label (hK _ _ ?_); clear hK K) | refine wk_scope ?_ | refine wk_block ?_ | refine wk_cond_t rfl ?_ | refine wk_cond_f rfl ?_ | (refine wk_exit ?_; (repeat (refine blockK_other rfl ?_)); refine blockK_same ?_; try ((repeat ((fail_if_success (refine hK _ _ ?_)); clear hK K)); refine hK _ _ ?_; clear hK K)) | (refine a_bin ?_ ?_ <;> intro _ <;> try (exfalso; omega)) | refine a_ld hl ?_ | (refine a_st hl ?_; clear hl; intro _ hl) | refine a_ix (fun _ => ?_) | refine a_row hr ?_ | fail)
    all_goals
      refine wk_ret (retQ_tmp1 Tryz.results43 (by decide) rfl (by conv => lhs; whnf) ?_)
      refine ⟨?_, hx1⟩
      rw [hhe]
      first
        | rw [decide_eq_true (by omega)]
        | rw [decide_eq_false (by omega)]
  · rw [if_neg (by omega), if_neg (by omega), if_pos (by omega), decide_eq_false (by omega)] at hhe
    repeat' (first | refine a_mov ?_ | refine a_asg ?_ | refine a_binN ?_ | refine a_notd ?_ | refine a_notb ?_ | refine a_nilc ?_ | refine a_fa ?_ | refine a_ext ?_ | refine a_lenv ?_ | refine a_lens ?_ | refine a_pick_t ?_ | refine a_pick_f ?_ | refine a_not ?_ | refine a_nilf ?_ | (refine o_nil (hK _ _ ?_); clear hK K) | refine wk_reg ?_ | refine wk_seq fun K hK => ?_ | (refine wk_skip (hK _ _ ?_); clear hK K) | (refine wk_label (hK _ _ ?_); clear hK K) | refine wk_scope ?_ | refine wk_block ?_ | refine wk_cond_t rfl ?_ | refine wk_cond_f rfl ?_ | (refine wk_exit ?_; (repeat (refine blockK_other rfl ?_)); refine blockK_same ?_; try ((repeat ((fail_if_success (refine hK _ _ ?_)); clear hK K)); refine hK _ _ ?_; clear hK K)) | (refine a_bin ?_ ?_ <;> intro _ <;> try (exfalso; omega)) | refine a_ld hl ?_ | (refine a_st hl ?_; clear hl; intro _ hl) | refine a_ix (fun _ => ?_) | refine a_row hr ?_ | fail)
    refine a_fn (happened_calls (ev := false) (hH.ext hx1) hn1) ?_
    rintro _ _ ⟨rfl, rfl⟩
    repeat' (first | refine a_mov ?_ | refine a_asg ?_ | refine a_binN ?_ | refine a_notd ?_ | refine a_notb ?_ | refine a_nilc ?_ | refine a_fa ?_ | refine a_ext ?_ | refine a_lenv ?_ | refine a_lens ?_ | refine a_pick_t ?_ | refine a_pick_f ?_ | refine a_not ?_ | refine a_nilf ?_ | (refine o_nil (hK _ _ ?_); clear hK K) | refine wk_reg ?_ | refine wk_seq fun K hK => ?_ | (refine wk_skip (hK _ _ ?_); clear hK K) | (refine wk_label (hK _ _ ?_); clear hK K) | refine wk_scope ?_ | refine wk_block ?_ | refine wk_cond_t rfl ?_ | refine wk_cond_f rfl ?_ | (refine wk_exit ?_; (repeat (refine blockK_other rfl ?_)); refine blockK_same ?_; try ((repeat ((fail_if_success (refine hK _ _ ?_)); clear hK K)); refine hK _ _ ?_; clear hK K)) | (refine a_bin ?_ ?_ <;> intro _ <;> try (exfalso; omega)) | refine a_ld hl ?_ | (refine a_st hl ?_; clear hl; intro _ hl) | refine a_ix (fun _ => ?_) | refine a_row hr ?_ | fail)
    refine wk_ret (retQ_tmp1 Tryz.results43 (by decide) rfl (by conv => lhs; whnf) ?_)
    rw [hhe]
    exact ⟨rfl, hx1⟩
  · rw [if_neg (by omega), if_neg (by omega), if_pos (by omega), decide_eq_true (by omega)] at hhe
    repeat' (first | refine a_mov ?_ | refine a_asg ?_ | refine a_binN ?_ | refine a_notd ?_ | refine a_notb ?_ | refine a_nilc ?_ | refine a_fa ?_ | refine a_ext ?_ | refine a_lenv ?_ | refine a_lens ?_ | refine a_pick_t ?_ | refine a_pick_f ?_ | refine a_not ?_ | refine a_nilf ?_ | (refine o_nil (hK _ _ ?_); clear hK K) | refine wk_reg ?_ | refine wk_seq fun K hK => ?_ | (refine wk_skip (hK _ _ ?_); clear hK K) | (refine wk_label (hK _ _ ?_); clear hK K) | refine wk_scope ?_ | refine wk_block ?_ | refine wk_cond_t rfl ?_ | refine wk_cond_f rfl ?_ | (refine wk_exit ?_; (repeat (refine blockK_other rfl ?_)); refine blockK_same ?_; try ((repeat ((fail_if_success (refine hK _ _ ?_)); clear hK K)); refine hK _ _ ?_; clear hK K)) | (refine a_bin ?_ ?_ <;> intro _ <;> try (exfalso; omega)) | refine a_ld hl ?_ | (refine a_st hl ?_; clear hl; intro _ hl) | refine a_ix (fun _ => ?_) | refine a_row hr ?_ | fail)
    refine a_fn (happened_calls (ev := true) (hH.ext hx1) hn1) ?_
    rintro _ _ ⟨rfl, rfl⟩
    repeat' (first | refine a_mov ?_ | refine a_asg ?_ | refine a_binN ?_ | refine a_notd ?_ | refine a_notb ?_ | refine a_nilc ?_ | refine a_fa ?_ | refine a_ext ?_ | refine a_lenv ?_ | refine a_lens ?_ | refine a_pick_t ?_ | refine a_pick_f ?_ | refine a_not ?_ | refine a_nilf ?_ | (refine o_nil (hK _ _ ?_); clear hK K) | refine wk_reg ?_ | refine wk_seq fun K hK => ?_ | (refine wk_skip (hK _ _ ?_); clear hK K) | (refine wk_label (hK _ _ ?_); clear hK K) | refine wk_scope ?_ | refine wk_block ?_ | refine wk_cond_t rfl ?_ | refine wk_cond_f rfl ?_ | (refine wk_exit ?_; (repeat (refine blockK_other rfl ?_)); refine blockK_same ?_; try ((repeat ((fail_if_success (refine hK _ _ ?_)); clear hK K)); refine hK _ _ ?_; clear hK K)) | (refine a_bin ?_ ?_ <;> intro _ <;> try (exfalso; omega)) | refine a_ld hl ?_ | (refine a_st hl ?_; clear hl; intro _ hl) | refine a_ix (fun _ => ?_) | refine a_row hr ?_ | fail)
    refine wk_ret (retQ_tmp1 Tryz.results43 (by decide) rfl (by conv => lhs; whnf) ?_)
    rw [hhe]
    exact ⟨rfl, hx1⟩
  · rw [if_neg (by omega), if_neg (by omega), if_neg (by omega), if_pos h, reach_begin] at hhe
    repeat' (first | refine a_mov ?_ | refine a_asg ?_ | refine a_binN ?_ | refine a_notd ?_ | refine a_notb ?_ | refine a_nilc ?_ | refine a_fa ?_ | refine a_ext ?_ | refine a_lenv ?_ | refine a_lens ?_ | refine a_pick_t ?_ | refine a_pick_f ?_ | refine a_not ?_ | refine a_nilf ?_ | (refine o_nil (hK _ _ ?_); clear hK K) | refine wk_reg ?_ | refine wk_seq fun K hK => ?_ | (refine wk_skip (hK _ _ ?_); clear hK K) | (refine wk_label (hK _ _ ?_); clear hK K) | refine wk_scope ?_ | refine wk_block ?_ | refine wk_cond_t rfl ?_ | refine wk_cond_f rfl ?_ | (refine wk_exit ?_; (repeat (refine blockK_other rfl ?_)); refine blockK_same ?_; try ((repeat ((fail_if_success (refine hK _ _ ?_)); clear hK K)); refine hK _ _ ?_; clear hK K)) | (refine a_bin ?_ ?_ <;> intro _ <;> try (exfalso; omega)) | refine a_ld hl ?_ | (refine a_st hl ?_; clear hl; intro _ hl) | refine a_ix (fun _ => ?_) | refine a_row hr ?_ | fail)
    refine a_fn (statusR_calls (hL.ext hx1) hn2) ?_
    rintro _ w2 ⟨rfl, hx2⟩
    refine a_fld (v := .int .i64 (stuR E.l s.name).begin_) (off := 1) ?_ rfl rfl rfl rfl
    repeat' (first | refine a_mov ?_ | refine a_asg ?_ | refine a_binN ?_ | refine a_notd ?_ | refine a_notb ?_ | refine a_nilc ?_ | refine a_fa ?_ | refine a_ext ?_ | refine a_lenv ?_ | refine a_lens ?_ | refine a_pick_t ?_ | refine a_pick_f ?_ | refine a_not ?_ | refine a_nilf ?_ | (refine o_nil (hK _ _ ?_); clear hK K) | refine wk_reg ?_ | refine wk_seq fun K hK => ?_ | (refine wk_skip (hK _ _ ?_); clear hK K) | (refine wk_label (hK _ _ ?_); clear hK K) | refine wk_scope ?_ | refine wk_block ?_ | refine wk_cond_t rfl ?_ | refine wk_cond_f rfl ?_ | (refine wk_exit ?_; (repeat (refine blockK_other rfl ?_)); refine blockK_same ?_; try ((repeat ((fail_if_success (refine hK _ _ ?_)); clear hK K)); refine hK _ _ ?_; clear hK K)) | (refine a_bin ?_ ?_ <;> intro _ <;> try (exfalso; omega)) | refine a_ld hl ?_ | (refine a_st hl ?_; clear hl; intro _ hl) | refine a_ix (fun _ => ?_) | refine a_row hr ?_ | fail)
    all_goals
      refine wk_ret (retQ_tmp1 Tryz.results43 (by decide) rfl (by conv => lhs; whnf) ?_)
      refine ⟨?_, hx1.trans hx2⟩
      rw [hhe]
      first
        | rw [decide_eq_true (by omega)]
        | rw [decide_eq_false (by omega)]
  · rw [if_neg (by omega), if_neg (by omega), if_neg (by omega), if_neg (by omega), if_pos h, reach_end] at hhe
    repeat' (first | refine a_mov ?_ | refine a_asg ?_ | refine a_binN ?_ | refine a_notd ?_ | refine a_notb ?_ | refine a_nilc ?_ | refine a_fa ?_ | refine a_ext ?_ | refine a_lenv ?_ | refine a_lens ?_ | refine a_pick_t ?_ | refine a_pick_f ?_ | refine a_not ?_ | refine a_nilf ?_ | (refine o_nil (hK _ _ ?_); clear hK K) | refine wk_reg ?_ | refine wk_seq fun K hK => ?_ | (refine wk_skip (hK _ _ ?_); clear hK K) | (refine wk_label (hK _ _ ?_); clear hK K) | refine wk_scope ?_ | refine wk_block ?_ | refine wk_cond_t rfl ?_ | refine wk_cond_f rfl ?_ | (refine wk_exit ?_; (repeat (refine blockK_other rfl ?_)); refine blockK_same ?_; try ((repeat ((fail_if_success (refine hK _ _ ?_)); clear hK K)); refine hK _ _ ?_; clear hK K)) | (refine a_bin ?_ ?_ <;> intro _ <;> try (exfalso; omega)) | refine a_ld hl ?_ | (refine a_st hl ?_; clear hl; intro _ hl) | refine a_ix (fun _ => ?_) | refine a_row hr ?_ | fail)
    refine a_fn (statusR_calls (hL.ext hx1) hn2) ?_
    rintro _ w2 ⟨rfl, hx2⟩
    refine a_fld (v := .int .i64 (stuR E.l s.name).end_) (off := 2) ?_ rfl rfl rfl rfl
    repeat' (first | refine a_mov ?_ | refine a_asg ?_ | refine a_binN ?_ | refine a_notd ?_ | refine a_notb ?_ | refine a_nilc ?_ | refine a_fa ?_ | refine a_ext ?_ | refine a_lenv ?_ | refine a_lens ?_ | refine a_pick_t ?_ | refine a_pick_f ?_ | refine a_not ?_ | refine a_nilf ?_ | (refine o_nil (hK _ _ ?_); clear hK K) | refine wk_reg ?_ | refine wk_seq fun K hK => ?_ | (refine wk_skip (hK _ _ ?_); clear hK K) | (refine wk_label (hK _ _ ?_); clear hK K) | refine wk_scope ?_ | refine wk_block ?_ | refine wk_cond_t rfl ?_ | refine wk_cond_f rfl ?_ | (refine wk_exit ?_; (repeat (refine blockK_other rfl ?_)); refine blockK_same ?_; try ((repeat ((fail_if_success (refine hK _ _ ?_)); clear hK K)); refine hK _ _ ?_; clear hK K)) | (refine a_bin ?_ ?_ <;> intro _ <;> try (exfalso; omega)) | refine a_ld hl ?_ | (refine a_st hl ?_; clear hl; intro _ hl) | refine a_ix (fun _ => ?_) | refine a_row hr ?_ | fail)
    all_goals
      refine wk_ret (retQ_tmp1 Tryz.results43 (by decide) rfl (by conv => lhs; whnf) ?_)
      refine ⟨?_, hx1.trans hx2⟩
      rw [hhe]
      first
        | rw [decide_eq_true (by omega)]
        | rw [decide_eq_false (by omega)]
  · rw [if_neg (by omega), if_neg (by omega), if_neg (by omega), if_neg (by omega), if_neg (by omega), if_pos h] at hhe
    have hall : (∀ k ∈ s.kids, hol E k = true) → hol E s = true := fun h => by rw [hhe, List.all_eq_true]; exact h
    have hex : ∀ k ∈ s.kids, hol E k = false → hol E s = false := fun k hk h => by rw [hhe, List.all_eq_false]; exact ⟨k, hk, by rw [h]; decide⟩
    repeat' (first | refine a_mov ?_ | refine a_asg ?_ | refine a_binN ?_ | refine a_notd ?_ | refine a_notb ?_ | refine a_nilc ?_ | refine a_fa ?_ | refine a_ext ?_ | refine a_lenv ?_ | refine a_lens ?_ | refine a_pick_t ?_ | refine a_pick_f ?_ | refine a_not ?_ | refine a_nilf ?_ | (refine o_nil (hK _ _ ?_); clear hK K) | refine wk_reg ?_ | refine wk_seq fun K hK => ?_ | (refine wk_skip (hK _ _ ?_); clear hK K) | (refine wk_label (hK _ _ ?_); clear hK K) | refine wk_scope ?_ | refine wk_block ?_ | refine wk_cond_t rfl ?_ | refine wk_cond_f rfl ?_ | (refine wk_exit ?_; (repeat (refine blockK_other rfl ?_)); refine blockK_same ?_; try ((repeat ((fail_if_success (refine hK _ _ ?_)); clear hK K)); refine hK _ _ ?_; clear hK K)) | (refine a_bin ?_ ?_ <;> intro _ <;> try (exfalso; omega)) | refine a_ld hl ?_ | (refine a_st hl ?_; clear hl; intro _ hl) | refine a_ix (fun _ => ?_) | refine a_row hr ?_ | fail)
    clear hl
    refine wk_loopH [] rfl (fun i : Nat => [(1, .int .i64 E.day), (2, .slice ha E.h.length hc), (3, .int .i64 E.known), (4, .slice la E.l.length lc), (5, .pointer (some ⟨b5, 0, none⟩)), (13, .int .i64 (i : Int))]) (fun i w' => (i ≤ s.kids.length ∧ ∀ k ∈ s.kids.take i, hol E k = true) ∧ Ext w1 w') (fun i => s.kids.length - i) 0 ⟨rfl, rfl, rfl, rfl, rfl, rfl, trivial⟩ ⟨⟨Nat.zero_le _, by simp⟩, .refl _ _⟩ ?_
    rintro i t w2 ⟨⟨hi, hpre⟩, hx⟩
    refine wk_seq fun K1 hK1 => ?_
    refine wk_seq fun K2 hK2 => ?_
    refine wk_reg ?_
    have hr2 := hr.ext hx
    by_cases hi1 : i < s.kids.length
    · obtain ⟨b, o, kv1, hpp, hrk, hk1⟩ := ((hk.ext hx1).ext hx).at hi1
      have hmem := List.getElem_mem hi1
      have hfk := fitL_mem hkf _ hmem
      repeat' (first | refine a_mov ?_ | refine a_asg ?_ | refine a_binN ?_ | refine a_notd ?_ | refine a_notb ?_ | refine a_nilc ?_ | refine a_fa ?_ | refine a_ext ?_ | refine a_lenv ?_ | refine a_lens ?_ | refine a_pick_t ?_ | refine a_pick_f ?_ | refine a_not ?_ | refine a_nilf ?_ | (refine a_bin ?_ ?_ <;> intro _ <;> try (exfalso; omega)) | refine a_ld hl ?_ | (refine a_st hl ?_; clear hl; intro _ hl) | refine a_ix (fun _ => ?_) | refine a_row hr2 ?_ | fail)
      refine o_nil (hK2 _ _ ?_)
      clear hK2 K2
      refine wk_cond_t rfl ?_
      refine wk_skip (hK1 _ _ ?_)
      clear hK1 K1
      refine wk_seq fun K1 hK1 => ?_
      refine wk_block ?_
      refine wk_seq fun K2 hK2 => ?_
      have hcall : ∀ w_, Ext w2 w_ → Calls Tryz.prog 43 #[.agg (snL s.kids[i] kv1).toArray, .int .i64 E.day, .slice ha E.h.length hc, .int .i64 E.known, .slice la E.l.length lc] w_ (fun e w' => ∃ v, e = .returned v ∧ v = .bool (hol E s.kids[i]) ∧ Ext w_ w') := fun w_ hw_ => ih s.kids[i] hmem w_ kv1 (hok _ hmem) hfk (KA.ext hk1 hw_) (((hH.ext hx1).ext hx).ext hw_) (((hL.ext hx1).ext hx).ext hw_)
      refine wk_quiet (List.range 14) ?_
      repeat' (first | refine q_mov ?_ | refine q_asg ?_ | refine q_fa ?_ | refine q_ext ?_ | refine q_binN ?_ | refine q_notd ?_ | refine q_notb ?_ | refine q_pick_t ?_ | refine q_pick_f ?_ | refine q_nilc ?_ | refine q_skip ?_ | refine q_lens ?_ | refine q_lenv ?_ | refine q_nil ?_ | refine q_ix (fun _ => ?_) | (refine q_bin ?_ ?_ <;> intro _ <;> try (exfalso; omega)) | refine q_row (fun w_ hw_ => hr2.ext hw_) ?_ | refine q_idx (c := 4) i hpp ?_ | refine q_all (fun w_ hw_ => hrk.ext hw_) ?_ | fail)
      refine q_fn hcall ?_
      repeat' (first | refine q_mov ?_ | refine q_asg ?_ | refine q_fa ?_ | refine q_ext ?_ | refine q_binN ?_ | refine q_notd ?_ | refine q_notb ?_ | refine q_pick_t ?_ | refine q_pick_f ?_ | refine q_nilc ?_ | refine q_skip ?_ | refine q_lens ?_ | refine q_lenv ?_ | refine q_nil ?_ | refine q_ix (fun _ => ?_) | (refine q_bin ?_ ?_ <;> intro _ <;> try (exfalso; omega)) | refine q_row (fun w_ hw_ => hr2.ext hw_) ?_ | refine q_pur rfl rfl rfl (fun _ => r_neB rfl rfl rfl) ?_ | fail)
      intro w3 hx3
      refine hK2 _ _ ?_
      clear hK2 K2
      cases hb : hol E s.kids[i] == true
      · have hne : hol E s.kids[i] ≠ true := by simpa using hb
        have hng : hol E s.kids[i] = false := by cases h : hol E s.kids[i] <;> simp_all
        rw [hng]
        refine wk_cond_t rfl ?_
        refine wk_seq fun K2 hK2 => ?_
        refine wk_reg ?_
        repeat' (first | refine a_mov ?_ | refine a_asg ?_ | refine a_binN ?_ | refine a_notd ?_ | refine a_notb ?_ | refine a_nilc ?_ | refine a_fa ?_ | refine a_ext ?_ | refine a_lenv ?_ | refine a_lens ?_ | refine a_pick_t ?_ | refine a_pick_f ?_ | refine a_not ?_ | refine a_nilf ?_ | (refine a_bin ?_ ?_ <;> intro _ <;> try (exfalso; omega)) | refine a_ld hl ?_ | (refine a_st hl ?_; clear hl; intro _ hl) | refine a_ix (fun _ => ?_) | refine a_row (hr2.ext hx3) ?_ | fail)
        refine o_nil (hK2 _ _ ?_)
        refine wk_ret (retQ_tmp1 Tryz.results43 (by decide) rfl (by conv => lhs; whnf) ?_)
        refine ⟨?_, (hx1.trans hx).trans hx3⟩
        first
          | (rw [hex _ hmem hng]; done)
          | (exfalso; rw [hnk] at hi1; exact absurd hi1 (by simp))
      · have heq : hol E s.kids[i] = true := by simpa using hb
        rw [heq]
        refine wk_cond_f rfl ?_
        refine wk_skip (hK1 _ _ ?_)
        clear hK1 K1
        refine wk_reg ?_
        repeat' (first | refine a_mov ?_ | refine a_asg ?_ | refine a_binN ?_ | refine a_notd ?_ | refine a_notb ?_ | refine a_nilc ?_ | refine a_fa ?_ | refine a_ext ?_ | refine a_lenv ?_ | refine a_lens ?_ | refine a_pick_t ?_ | refine a_pick_f ?_ | refine a_not ?_ | refine a_nilf ?_ | (refine a_bin ?_ ?_ <;> intro _ <;> try (exfalso; omega)) | refine a_ld hl ?_ | (refine a_st hl ?_; clear hl; intro _ hl) | refine a_ix (fun _ => ?_) | fail)
        refine o_nil ⟨i + 1, ⟨rfl, rfl, rfl, rfl, rfl, rfl, trivial⟩, rfl, ⟨⟨hi1, fun k hk => ?_⟩, hx.trans hx3⟩, by omega⟩
        rw [List.take_succ_eq_append_getElem hi1] at hk
        rcases List.mem_append.1 hk with hk | hk
        · exact hpre k hk
        · rw [List.mem_singleton.1 hk]; exact heq
    · obtain rfl : i = s.kids.length := by omega
      rw [List.take_length] at hpre
      repeat' (first | refine a_mov ?_ | refine a_asg ?_ | refine a_binN ?_ | refine a_notd ?_ | refine a_notb ?_ | refine a_nilc ?_ | refine a_fa ?_ | refine a_ext ?_ | refine a_lenv ?_ | refine a_lens ?_ | refine a_pick_t ?_ | refine a_pick_f ?_ | refine a_not ?_ | refine a_nilf ?_ | (refine a_bin ?_ ?_ <;> intro _ <;> try (exfalso; omega)) | refine a_ld hl ?_ | (refine a_st hl ?_; clear hl; intro _ hl) | refine a_ix (fun _ => ?_) | refine a_row hr2 ?_ | fail)
      refine o_nil (hK2 _ _ ?_)
      clear hK2 K2
      refine wk_cond_f rfl ?_
      refine wk_exit ?_
      refine blockK_same ?_
      refine hK _ _ ?_
      clear hK1 K1
      clear hK K
      refine wk_seq fun K hK => ?_
      refine wk_reg ?_
      repeat' (first | refine a_mov ?_ | refine a_asg ?_ | refine a_binN ?_ | refine a_notd ?_ | refine a_notb ?_ | refine a_nilc ?_ | refine a_fa ?_ | refine a_ext ?_ | refine a_lenv ?_ | refine a_lens ?_ | refine a_pick_t ?_ | refine a_pick_f ?_ | refine a_not ?_ | refine a_nilf ?_ | (refine a_bin ?_ ?_ <;> intro _ <;> try (exfalso; omega)) | refine a_ld hl ?_ | (refine a_st hl ?_; clear hl; intro _ hl) | refine a_ix (fun _ => ?_) | refine a_row hr2 ?_ | fail)
      refine o_nil (hK _ _ ?_)
      refine wk_ret (retQ_tmp1 Tryz.results43 (by decide) rfl (by conv => lhs; whnf) ?_)
      rw [hall hpre]
      exact ⟨rfl, hx1.trans hx⟩
  · rw [if_neg (by omega), if_neg (by omega), if_neg (by omega), if_neg (by omega), if_neg (by omega), if_neg (by omega), if_pos h] at hhe
    have hall : (∀ k ∈ s.kids, hol E k = false) → hol E s = false := fun h => by rw [hhe, List.any_eq_false]; exact fun k hk => by rw [h k hk]; decide
    have hex : ∀ k ∈ s.kids, hol E k = true → hol E s = true := fun k hk h => by rw [hhe, List.any_eq_true]; exact ⟨k, hk, h⟩
    repeat' (first | refine a_mov ?_ | refine a_asg ?_ | refine a_binN ?_ | refine a_notd ?_ | refine a_notb ?_ | refine a_nilc ?_ | refine a_fa ?_ | refine a_ext ?_ | refine a_lenv ?_ | refine a_lens ?_ | refine a_pick_t ?_ | refine a_pick_f ?_ | refine a_not ?_ | refine a_nilf ?_ | (refine o_nil (hK _ _ ?_); clear hK K) | refine wk_reg ?_ | refine wk_seq fun K hK => ?_ | (refine wk_skip (hK _ _ ?_); clear hK K) | (refine wk_label (hK _ _ ?_); clear hK K) | refine wk_scope ?_ | refine wk_block ?_ | refine wk_cond_t rfl ?_ | refine wk_cond_f rfl ?_ | (refine wk_exit ?_; (repeat (refine blockK_other rfl ?_)); refine blockK_same ?_; try ((repeat ((fail_if_success (refine hK _ _ ?_)); clear hK K)); refine hK _ _ ?_; clear hK K)) | (refine a_bin ?_ ?_ <;> intro _ <;> try (exfalso; omega)) | refine a_ld hl ?_ | (refine a_st hl ?_; clear hl; intro _ hl) | refine a_ix (fun _ => ?_) | refine a_row hr ?_ | fail)
    clear hl
    refine wk_loopH [] rfl (fun i : Nat => [(1, .int .i64 E.day), (2, .slice ha E.h.length hc), (3, .int .i64 E.known), (4, .slice la E.l.length lc), (5, .pointer (some ⟨b5, 0, none⟩)), (13, .int .i64 (i : Int))]) (fun i w' => (i ≤ s.kids.length ∧ ∀ k ∈ s.kids.take i, hol E k = false) ∧ Ext w1 w') (fun i => s.kids.length - i) 0 ⟨rfl, rfl, rfl, rfl, rfl, rfl, trivial⟩ ⟨⟨Nat.zero_le _, by simp⟩, .refl _ _⟩ ?_
    rintro i t w2 ⟨⟨hi, hpre⟩, hx⟩
    refine wk_seq fun K1 hK1 => ?_
    refine wk_seq fun K2 hK2 => ?_
    refine wk_reg ?_
    have hr2 := hr.ext hx
    by_cases hi1 : i < s.kids.length
    · obtain ⟨b, o, kv1, hpp, hrk, hk1⟩ := ((hk.ext hx1).ext hx).at hi1
      have hmem := List.getElem_mem hi1
      have hfk := fitL_mem hkf _ hmem
      repeat' (first | refine a_mov ?_ | refine a_asg ?_ | refine a_binN ?_ | refine a_notd ?_ | refine a_notb ?_ | refine a_nilc ?_ | refine a_fa ?_ | refine a_ext ?_ | refine a_lenv ?_ | refine a_lens ?_ | refine a_pick_t ?_ | refine a_pick_f ?_ | refine a_not ?_ | refine a_nilf ?_ | (refine a_bin ?_ ?_ <;> intro _ <;> try (exfalso; omega)) | refine a_ld hl ?_ | (refine a_st hl ?_; clear hl; intro _ hl) | refine a_ix (fun _ => ?_) | refine a_row hr2 ?_ | fail)
      refine o_nil (hK2 _ _ ?_)
      clear hK2 K2
      refine wk_cond_t rfl ?_
      refine wk_skip (hK1 _ _ ?_)
      clear hK1 K1
      refine wk_seq fun K1 hK1 => ?_
      refine wk_block ?_
      refine wk_seq fun K2 hK2 => ?_
      have hcall : ∀ w_, Ext w2 w_ → Calls Tryz.prog 43 #[.agg (snL s.kids[i] kv1).toArray, .int .i64 E.day, .slice ha E.h.length hc, .int .i64 E.known, .slice la E.l.length lc] w_ (fun e w' => ∃ v, e = .returned v ∧ v = .bool (hol E s.kids[i]) ∧ Ext w_ w') := fun w_ hw_ => ih s.kids[i] hmem w_ kv1 (hok _ hmem) hfk (KA.ext hk1 hw_) (((hH.ext hx1).ext hx).ext hw_) (((hL.ext hx1).ext hx).ext hw_)
      refine wk_quiet (List.range 14) ?_
      repeat' (first | refine q_mov ?_ | refine q_asg ?_ | refine q_fa ?_ | refine q_ext ?_ | refine q_binN ?_ | refine q_notd ?_ | refine q_notb ?_ | refine q_pick_t ?_ | refine q_pick_f ?_ | refine q_nilc ?_ | refine q_skip ?_ | refine q_lens ?_ | refine q_lenv ?_ | refine q_nil ?_ | refine q_ix (fun _ => ?_) | (refine q_bin ?_ ?_ <;> intro _ <;> try (exfalso; omega)) | refine q_row (fun w_ hw_ => hr2.ext hw_) ?_ | refine q_idx (c := 4) i hpp ?_ | refine q_all (fun w_ hw_ => hrk.ext hw_) ?_ | fail)
      refine q_fn hcall ?_
      repeat' (first | refine q_mov ?_ | refine q_asg ?_ | refine q_fa ?_ | refine q_ext ?_ | refine q_binN ?_ | refine q_notd ?_ | refine q_notb ?_ | refine q_pick_t ?_ | refine q_pick_f ?_ | refine q_nilc ?_ | refine q_skip ?_ | refine q_lens ?_ | refine q_lenv ?_ | refine q_nil ?_ | refine q_ix (fun _ => ?_) | (refine q_bin ?_ ?_ <;> intro _ <;> try (exfalso; omega)) | refine q_row (fun w_ hw_ => hr2.ext hw_) ?_ | refine q_pur rfl rfl rfl (fun _ => r_neB rfl rfl rfl) ?_ | fail)
      intro w3 hx3
      refine hK2 _ _ ?_
      clear hK2 K2
      cases hb : hol E s.kids[i] == false
      · have hne : hol E s.kids[i] ≠ false := by simpa using hb
        have hng : hol E s.kids[i] = true := by cases h : hol E s.kids[i] <;> simp_all
        rw [hng]
        refine wk_cond_t rfl ?_
        refine wk_seq fun K2 hK2 => ?_
        refine wk_reg ?_
        repeat' (first | refine a_mov ?_ | refine a_asg ?_ | refine a_binN ?_ | refine a_notd ?_ | refine a_notb ?_ | refine a_nilc ?_ | refine a_fa ?_ | refine a_ext ?_ | refine a_lenv ?_ | refine a_lens ?_ | refine a_pick_t ?_ | refine a_pick_f ?_ | refine a_not ?_ | refine a_nilf ?_ | (refine a_bin ?_ ?_ <;> intro _ <;> try (exfalso; omega)) | refine a_ld hl ?_ | (refine a_st hl ?_; clear hl; intro _ hl) | refine a_ix (fun _ => ?_) | refine a_row (hr2.ext hx3) ?_ | fail)
        refine o_nil (hK2 _ _ ?_)
        refine wk_ret (retQ_tmp1 Tryz.results43 (by decide) rfl (by conv => lhs; whnf) ?_)
        refine ⟨?_, (hx1.trans hx).trans hx3⟩
        first
          | (rw [hex _ hmem hng]; done)
          | (exfalso; rw [hnk] at hi1; exact absurd hi1 (by simp))
      · have heq : hol E s.kids[i] = false := by simpa using hb
        rw [heq]
        refine wk_cond_f rfl ?_
        refine wk_skip (hK1 _ _ ?_)
        clear hK1 K1
        refine wk_reg ?_
        repeat' (first | refine a_mov ?_ | refine a_asg ?_ | refine a_binN ?_ | refine a_notd ?_ | refine a_notb ?_ | refine a_nilc ?_ | refine a_fa ?_ | refine a_ext ?_ | refine a_lenv ?_ | refine a_lens ?_ | refine a_pick_t ?_ | refine a_pick_f ?_ | refine a_not ?_ | refine a_nilf ?_ | (refine a_bin ?_ ?_ <;> intro _ <;> try (exfalso; omega)) | refine a_ld hl ?_ | (refine a_st hl ?_; clear hl; intro _ hl) | refine a_ix (fun _ => ?_) | fail)
        refine o_nil ⟨i + 1, ⟨rfl, rfl, rfl, rfl, rfl, rfl, trivial⟩, rfl, ⟨⟨hi1, fun k hk => ?_⟩, hx.trans hx3⟩, by omega⟩
        rw [List.take_succ_eq_append_getElem hi1] at hk
        rcases List.mem_append.1 hk with hk | hk
        · exact hpre k hk
        · rw [List.mem_singleton.1 hk]; exact heq
    · obtain rfl : i = s.kids.length := by omega
      rw [List.take_length] at hpre
      repeat' (first | refine a_mov ?_ | refine a_asg ?_ | refine a_binN ?_ | refine a_notd ?_ | refine a_notb ?_ | refine a_nilc ?_ | refine a_fa ?_ | refine a_ext ?_ | refine a_lenv ?_ | refine a_lens ?_ | refine a_pick_t ?_ | refine a_pick_f ?_ | refine a_not ?_ | refine a_nilf ?_ | (refine a_bin ?_ ?_ <;> intro _ <;> try (exfalso; omega)) | refine a_ld hl ?_ | (refine a_st hl ?_; clear hl; intro _ hl) | refine a_ix (fun _ => ?_) | refine a_row hr2 ?_ | fail)
      refine o_nil (hK2 _ _ ?_)
      clear hK2 K2
      refine wk_cond_f rfl ?_
      refine wk_exit ?_
      refine blockK_same ?_
      refine hK _ _ ?_
      clear hK1 K1
      clear hK K
      refine wk_seq fun K hK => ?_
      refine wk_reg ?_
      repeat' (first | refine a_mov ?_ | refine a_asg ?_ | refine a_binN ?_ | refine a_notd ?_ | refine a_notb ?_ | refine a_nilc ?_ | refine a_fa ?_ | refine a_ext ?_ | refine a_lenv ?_ | refine a_lens ?_ | refine a_pick_t ?_ | refine a_pick_f ?_ | refine a_not ?_ | refine a_nilf ?_ | (refine a_bin ?_ ?_ <;> intro _ <;> try (exfalso; omega)) | refine a_ld hl ?_ | (refine a_st hl ?_; clear hl; intro _ hl) | refine a_ix (fun _ => ?_) | refine a_row hr2 ?_ | fail)
      refine o_nil (hK _ _ ?_)
      refine wk_ret (retQ_tmp1 Tryz.results43 (by decide) rfl (by conv => lhs; whnf) ?_)
      rw [hall hpre]
      exact ⟨rfl, hx1.trans hx⟩
  · rw [if_neg (by omega), if_neg (by omega), if_neg (by omega), if_neg (by omega), if_neg (by omega), if_neg (by omega), if_neg (by omega)] at hhe
    have hall : (∀ k ∈ s.kids, hol E k = false) → hol E s = false := fun _ => hhe
    have hex : ∀ k ∈ s.kids, hol E k = true → hol E s = true := fun k hk => by rw [hnk] at hk; cases hk
    repeat' (first | refine a_mov ?_ | refine a_asg ?_ | refine a_binN ?_ | refine a_notd ?_ | refine a_notb ?_ | refine a_nilc ?_ | refine a_fa ?_ | refine a_ext ?_ | refine a_lenv ?_ | refine a_lens ?_ | refine a_pick_t ?_ | refine a_pick_f ?_ | refine a_not ?_ | refine a_nilf ?_ | (refine o_nil (hK _ _ ?_); clear hK K) | refine wk_reg ?_ | refine wk_seq fun K hK => ?_ | (refine wk_skip (hK _ _ ?_); clear hK K) | (refine wk_label (hK _ _ ?_); clear hK K) | refine wk_scope ?_ | refine wk_block ?_ | refine wk_cond_t rfl ?_ | refine wk_cond_f rfl ?_ | (refine wk_exit ?_; (repeat (refine blockK_other rfl ?_)); refine blockK_same ?_; try ((repeat ((fail_if_success (refine hK _ _ ?_)); clear hK K)); refine hK _ _ ?_; clear hK K)) | (refine a_bin ?_ ?_ <;> intro _ <;> try (exfalso; omega)) | refine a_ld hl ?_ | (refine a_st hl ?_; clear hl; intro _ hl) | refine a_ix (fun _ => ?_) | refine a_row hr ?_ | fail)
    clear hl
    refine wk_loopH [] rfl (fun i : Nat => [(1, .int .i64 E.day), (2, .slice ha E.h.length hc), (3, .int .i64 E.known), (4, .slice la E.l.length lc), (5, .pointer (some ⟨b5, 0, none⟩)), (13, .int .i64 (i : Int))]) (fun i w' => (i ≤ s.kids.length ∧ ∀ k ∈ s.kids.take i, hol E k = false) ∧ Ext w1 w') (fun i => s.kids.length - i) 0 ⟨rfl, rfl, rfl, rfl, rfl, rfl, trivial⟩ ⟨⟨Nat.zero_le _, by simp⟩, .refl _ _⟩ ?_
    rintro i t w2 ⟨⟨hi, hpre⟩, hx⟩
    refine wk_seq fun K1 hK1 => ?_
    refine wk_seq fun K2 hK2 => ?_
    refine wk_reg ?_
    have hr2 := hr.ext hx
    by_cases hi1 : i < s.kids.length
    · obtain ⟨b, o, kv1, hpp, hrk, hk1⟩ := ((hk.ext hx1).ext hx).at hi1
      have hmem := List.getElem_mem hi1
      have hfk := fitL_mem hkf _ hmem
      repeat' (first | refine a_mov ?_ | refine a_asg ?_ | refine a_binN ?_ | refine a_notd ?_ | refine a_notb ?_ | refine a_nilc ?_ | refine a_fa ?_ | refine a_ext ?_ | refine a_lenv ?_ | refine a_lens ?_ | refine a_pick_t ?_ | refine a_pick_f ?_ | refine a_not ?_ | refine a_nilf ?_ | (refine a_bin ?_ ?_ <;> intro _ <;> try (exfalso; omega)) | refine a_ld hl ?_ | (refine a_st hl ?_; clear hl; intro _ hl) | refine a_ix (fun _ => ?_) | refine a_row hr2 ?_ | fail)
      refine o_nil (hK2 _ _ ?_)
      clear hK2 K2
      refine wk_cond_t rfl ?_
      refine wk_skip (hK1 _ _ ?_)
      clear hK1 K1
      refine wk_seq fun K1 hK1 => ?_
      refine wk_block ?_
      refine wk_seq fun K2 hK2 => ?_
      have hcall : ∀ w_, Ext w2 w_ → Calls Tryz.prog 43 #[.agg (snL s.kids[i] kv1).toArray, .int .i64 E.day, .slice ha E.h.length hc, .int .i64 E.known, .slice la E.l.length lc] w_ (fun e w' => ∃ v, e = .returned v ∧ v = .bool (hol E s.kids[i]) ∧ Ext w_ w') := fun w_ hw_ => ih s.kids[i] hmem w_ kv1 (hok _ hmem) hfk (KA.ext hk1 hw_) (((hH.ext hx1).ext hx).ext hw_) (((hL.ext hx1).ext hx).ext hw_)
      refine wk_quiet (List.range 14) ?_
      repeat' (first | refine q_mov ?_ | refine q_asg ?_ | refine q_fa ?_ | refine q_ext ?_ | refine q_binN ?_ | refine q_notd ?_ | refine q_notb ?_ | refine q_pick_t ?_ | refine q_pick_f ?_ | refine q_nilc ?_ | refine q_skip ?_ | refine q_lens ?_ | refine q_lenv ?_ | refine q_nil ?_ | refine q_ix (fun _ => ?_) | (refine q_bin ?_ ?_ <;> intro _ <;> try (exfalso; omega)) | refine q_row (fun w_ hw_ => hr2.ext hw_) ?_ | refine q_idx (c := 4) i hpp ?_ | refine q_all (fun w_ hw_ => hrk.ext hw_) ?_ | fail)
      refine q_fn hcall ?_
      repeat' (first | refine q_mov ?_ | refine q_asg ?_ | refine q_fa ?_ | refine q_ext ?_ | refine q_binN ?_ | refine q_notd ?_ | refine q_notb ?_ | refine q_pick_t ?_ | refine q_pick_f ?_ | refine q_nilc ?_ | refine q_skip ?_ | refine q_lens ?_ | refine q_lenv ?_ | refine q_nil ?_ | refine q_ix (fun _ => ?_) | (refine q_bin ?_ ?_ <;> intro _ <;> try (exfalso; omega)) | refine q_row (fun w_ hw_ => hr2.ext hw_) ?_ | refine q_pur rfl rfl rfl (fun _ => r_neB rfl rfl rfl) ?_ | fail)
      intro w3 hx3
      refine hK2 _ _ ?_
      clear hK2 K2
      cases hb : hol E s.kids[i] == false
      · have hne : hol E s.kids[i] ≠ false := by simpa using hb
        have hng : hol E s.kids[i] = true := by cases h : hol E s.kids[i] <;> simp_all
        rw [hng]
        refine wk_cond_t rfl ?_
        refine wk_seq fun K2 hK2 => ?_
        refine wk_reg ?_
        repeat' (first | refine a_mov ?_ | refine a_asg ?_ | refine a_binN ?_ | refine a_notd ?_ | refine a_notb ?_ | refine a_nilc ?_ | refine a_fa ?_ | refine a_ext ?_ | refine a_lenv ?_ | refine a_lens ?_ | refine a_pick_t ?_ | refine a_pick_f ?_ | refine a_not ?_ | refine a_nilf ?_ | (refine a_bin ?_ ?_ <;> intro _ <;> try (exfalso; omega)) | refine a_ld hl ?_ | (refine a_st hl ?_; clear hl; intro _ hl) | refine a_ix (fun _ => ?_) | refine a_row (hr2.ext hx3) ?_ | fail)
        refine o_nil (hK2 _ _ ?_)
        refine wk_ret (retQ_tmp1 Tryz.results43 (by decide) rfl (by conv => lhs; whnf) ?_)
        refine ⟨?_, (hx1.trans hx).trans hx3⟩
        first
          | (rw [hex _ hmem hng]; done)
          | (exfalso; rw [hnk] at hi1; exact absurd hi1 (by simp))
      · have heq : hol E s.kids[i] = false := by simpa using hb
        rw [heq]
        refine wk_cond_f rfl ?_
        refine wk_skip (hK1 _ _ ?_)
        clear hK1 K1
        refine wk_reg ?_
        repeat' (first | refine a_mov ?_ | refine a_asg ?_ | refine a_binN ?_ | refine a_notd ?_ | refine a_notb ?_ | refine a_nilc ?_ | refine a_fa ?_ | refine a_ext ?_ | refine a_lenv ?_ | refine a_lens ?_ | refine a_pick_t ?_ | refine a_pick_f ?_ | refine a_not ?_ | refine a_nilf ?_ | (refine a_bin ?_ ?_ <;> intro _ <;> try (exfalso; omega)) | refine a_ld hl ?_ | (refine a_st hl ?_; clear hl; intro _ hl) | refine a_ix (fun _ => ?_) | fail)
        refine o_nil ⟨i + 1, ⟨rfl, rfl, rfl, rfl, rfl, rfl, trivial⟩, rfl, ⟨⟨hi1, fun k hk => ?_⟩, hx.trans hx3⟩, by omega⟩
        rw [List.take_succ_eq_append_getElem hi1] at hk
        rcases List.mem_append.1 hk with hk | hk
        · exact hpre k hk
        · rw [List.mem_singleton.1 hk]; exact heq
    · obtain rfl : i = s.kids.length := by omega
      rw [List.take_length] at hpre
      repeat' (first | refine a_mov ?_ | refine a_asg ?_ | refine a_binN ?_ | refine a_notd ?_ | refine a_notb ?_ | refine a_nilc ?_ | refine a_fa ?_ | refine a_ext ?_ | refine a_lenv ?_ | refine a_lens ?_ | refine a_pick_t ?_ | refine a_pick_f ?_ | refine a_not ?_ | refine a_nilf ?_ | (refine a_bin ?_ ?_ <;> intro _ <;> try (exfalso; omega)) | refine a_ld hl ?_ | (refine a_st hl ?_; clear hl; intro _ hl) | refine a_ix (fun _ => ?_) | refine a_row hr2 ?_ | fail)
      refine o_nil (hK2 _ _ ?_)
      clear hK2 K2
      refine wk_cond_f rfl ?_
      refine wk_exit ?_
      refine blockK_same ?_
      refine hK _ _ ?_
      clear hK1 K1
      clear hK K
      refine wk_seq fun K hK => ?_
      refine wk_reg ?_
      repeat' (first | refine a_mov ?_ | refine a_asg ?_ | refine a_binN ?_ | refine a_notd ?_ | refine a_notb ?_ | refine a_nilc ?_ | refine a_fa ?_ | refine a_ext ?_ | refine a_lenv ?_ | refine a_lens ?_ | refine a_pick_t ?_ | refine a_pick_f ?_ | refine a_not ?_ | refine a_nilf ?_ | (refine a_bin ?_ ?_ <;> intro _ <;> try (exfalso; omega)) | refine a_ld hl ?_ | (refine a_st hl ?_; clear hl; intro _ hl) | refine a_ix (fun _ => ?_) | refine a_row hr2 ?_ | fail)
      refine o_nil (hK _ _ ?_)
      refine wk_ret (retQ_tmp1 Tryz.results43 (by decide) rfl (by conv => lhs; whnf) ?_)
      rw [hall hpre]
      exact ⟨rfl, hx1.trans hx⟩
theorem holdsR_calls {E : Env} {s : Sn} {w : World} {kv hv lv : Value} (hd : dep s ≤ 1000000) (hfit : fitS s) (hk : KA w s.kids kv) (hH : Sl w hv 4 (E.h.flatMap hapL)) (hL : Sl w lv 4 (E.l.flatMap stuL)) (hn1 : E.h.length ≤ 140737488351232) (hn2 : E.l.length ≤ 140737488351232) :
    Calls Tryz.prog 21 #[.agg (snL s kv).toArray, .int .i64 E.day, hv, .int .i64 E.known, lv] w (fun e w' => ∃ v, e = .returned v ∧ v = .bool (holds E s) ∧ Ext w w') := by
  obtain ⟨ka, kc, rfl, -⟩ := hk.shape
  obtain ⟨ha, hc, rfl, -⟩ := hH.shape (flat_length hapL_len E.h) (by omega)
  obtain ⟨la, lc, rfl, -⟩ := hL.shape (flat_length stuL_len E.l) (by omega)
  have hh : holds E s = (validB s && hol E s) := rfl
  refine calls_of Tryz.func21 rfl Tryz.ntmps21 rfl ?_
  refine wk_seq fun K hK => ?_
  refine wk_reg ?_
  refine o_box (LH.start w (fun _ => False)) (snL s (.slice ka s.kids.length kc)) rfl rfl rfl ?_
  intro b5 w1 hb5 hl
  have hr : Row w1 b5 0 (snL s (.slice ka s.kids.length kc)) := hl.rowL (vs := snL s (.slice ka s.kids.length kc)) 0 0 4 rfl
  have hx1 := hl.done
  clear hl
  refine a_asg ?_
  refine o_nil (hK _ _ ?_)
  clear hK K
  refine wk_seq fun K hK => ?_
  refine wk_reg ?_
  refine a_all hr ?_
  refine a_fn (validR_calls hd hfit (hk.ext hx1)) ?_
  rintro _ w2 ⟨rfl, hx2⟩
  cases hv : validB s
  · rw [hv, Bool.false_and] at hh
    repeat' (first | refine a_mov ?_ | refine a_asg ?_ | refine a_binN ?_ | refine a_notd ?_ | refine a_notb ?_ | refine a_nilc ?_ | refine a_fa ?_ | refine a_ext ?_ | refine a_lenv ?_ | refine a_lens ?_ | refine a_pick_t ?_ | refine a_pick_f ?_ | refine a_not ?_ | refine a_nilf ?_ | (refine a_bin ?_ ?_ <;> intro _ <;> try (exfalso; omega)) | refine a_ld hl ?_ | (refine a_st hl ?_; clear hl; intro _ hl) | refine a_ix (fun _ => ?_) | fail)
    refine o_nil (hK _ _ ?_)
    refine wk_ret (retQ_tmp1 Tryz.results21 (by decide) rfl (by conv => lhs; whnf) ?_)
    rw [hh]
    exact ⟨rfl, hx1.trans hx2⟩
  · rw [hv, Bool.true_and] at hh
    have hok : okB s = true := by
      unfold validB at hv
      rw [decide_eq_true_eq] at hv
      exact hv.2.2
    repeat' (first | refine a_mov ?_ | refine a_asg ?_ | refine a_binN ?_ | refine a_notd ?_ | refine a_notb ?_ | refine a_nilc ?_ | refine a_fa ?_ | refine a_ext ?_ | refine a_lenv ?_ | refine a_lens ?_ | refine a_pick_t ?_ | refine a_pick_f ?_ | refine a_not ?_ | refine a_nilf ?_ | (refine a_bin ?_ ?_ <;> intro _ <;> try (exfalso; omega)) | refine a_ld hl ?_ | (refine a_st hl ?_; clear hl; intro _ hl) | refine a_ix (fun _ => ?_) | fail)
    refine a_all (hr.ext hx2) ?_
    repeat' (first | refine a_mov ?_ | refine a_asg ?_ | refine a_binN ?_ | refine a_notd ?_ | refine a_notb ?_ | refine a_nilc ?_ | refine a_fa ?_ | refine a_ext ?_ | refine a_lenv ?_ | refine a_lens ?_ | refine a_pick_t ?_ | refine a_pick_f ?_ | refine a_not ?_ | refine a_nilf ?_ | (refine a_bin ?_ ?_ <;> intro _ <;> try (exfalso; omega)) | refine a_ld hl ?_ | (refine a_st hl ?_; clear hl; intro _ hl) | refine a_ix (fun _ => ?_) | fail)
    refine a_fn (holdsIn_calls (E := E) hn1 hn2 s w2 (.slice ka s.kids.length kc) hok hfit ((hk.ext hx1).ext hx2) ((hH.ext hx1).ext hx2) ((hL.ext hx1).ext hx2)) ?_
    rintro _ w3 ⟨rfl, hx3⟩
    repeat' (first | refine a_mov ?_ | refine a_asg ?_ | refine a_binN ?_ | refine a_notd ?_ | refine a_notb ?_ | refine a_nilc ?_ | refine a_fa ?_ | refine a_ext ?_ | refine a_lenv ?_ | refine a_lens ?_ | refine a_pick_t ?_ | refine a_pick_f ?_ | refine a_not ?_ | refine a_nilf ?_ | (refine a_bin ?_ ?_ <;> intro _ <;> try (exfalso; omega)) | refine a_ld hl ?_ | (refine a_st hl ?_; clear hl; intro _ hl) | refine a_ix (fun _ => ?_) | fail)
    refine o_nil (hK _ _ ?_)
    refine wk_ret (retQ_tmp1 Tryz.results21 (by decide) rfl (by conv => lhs; whnf) ?_)
    rw [hh]
    exact ⟨rfl, (hx1.trans hx2).trans hx3⟩
end Go.Proofs
