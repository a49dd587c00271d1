/-
  A network: New.
-/
import Derived.Test.YthiiodbjmcafgaaNeI
set_option linter.unusedVariables false
set_option linter.unusedSimpArgs false
set_option linter.unnecessarySimpa false
set_option maxRecDepth 10000
namespace Go.Ne
open Go Go.Pd
def x0 : Nod := ⟨[], fun _ => ⟨0, 0, []⟩⟩
theorem cells_new (n : Nat) (d : NodB) (hn : n < 8) (gk : Nat) (es : Array MapEntry) (c : Nat) : (nodCells n d x0).set (2 + n * 3 + 2) (.map (some gk)) = nodCells (n + 1) { d with pg := upd d.pg n gk, ges := upd d.ges n es, gc := upd d.gc n c } x0 := by
  unfold nodCells
  rw [show 2 + n * 3 + 2 = (n * 3 + 2) + 1 + 1 by omega, List.set_cons_succ, List.set_cons_succ]
  congr 2
  refine range_set _ _ 24 (n * 3 + 2) _ (by omega) (fun i hi => ?_) ?_
  · unfold pcell
    by_cases h0 : i % 3 = 0
    · simp only [if_pos h0]
    · by_cases h1 : i % 3 = 1
      · simp only [if_neg h0, if_pos h1]
      · have hne : i / 3 ≠ n := by omega
        simp only [if_neg h0, if_neg h1, upd_ne _ _ hne]
        by_cases hlt : i / 3 < n
        · rw [if_pos hlt, if_pos (by omega)]
        · rw [if_neg hlt, if_neg (by omega)]
  · rw [pcell2 _ _ _ _ (by omega)]; simp only [upd_same]
def gots (n : Nat) (d : NodB) : List (Nat × Obj) := (List.range n).map fun k => (d.pg k, Obj.map (d.ges k) (d.gc k))
theorem gots_succ (n : Nat) (d : NodB) (gk : Nat) (es : Array MapEntry) (c : Nat) : gots (n + 1) { d with pg := upd d.pg n gk, ges := upd d.ges n es, gc := upd d.gc n c } = gots n d ++ [(gk, .map es c)] := by
  unfold gots
  rw [List.range_succ, List.map_append]
  congr 1
  · refine List.map_congr_left fun k hk => ?_
    have : k ≠ n := by have := List.mem_range.1 hk; omega
    simp only [upd_ne _ _ this]
  · simp only [List.map_cons, List.map_nil, upd_same]
theorem perm_new {α : Type} (q g : α) (T G R Q N : List α) : (q :: g :: (T ++ (G ++ (R ++ (Q ++ N))))).Perm (T ++ ((G ++ [g]) ++ (R ++ ((Q ++ [q]) ++ N)))) := by
  have h1 : (T ++ ((G ++ [g]) ++ (R ++ ((Q ++ [q]) ++ N)))) = (T ++ G) ++ g :: (R ++ (Q ++ q :: N)) := by simp
  have h2 : ((T ++ G) ++ g :: (R ++ (Q ++ q :: N))).Perm (g :: ((T ++ G) ++ (R ++ (Q ++ q :: N)))) := List.perm_middle
  have h3 : (g :: ((T ++ G) ++ (R ++ (Q ++ q :: N)))) = (g :: (T ++ G ++ R ++ Q)) ++ q :: N := by simp
  have h4 : ((g :: (T ++ G ++ R ++ Q)) ++ q :: N).Perm (q :: ((g :: (T ++ G ++ R ++ Q)) ++ N)) := List.perm_middle
  rw [h1]
  refine List.Perm.symm (h2.trans ?_)
  rw [h3]
  refine h4.trans ?_
  simp
/-- The network under construction. -/
def newT (p qm cm am : Nat) (nv : Value) (qes : Array MapEntry) (qc : Nat) : List (Nat × Obj) := [(p, .cells #[nv, .map (some qm), .map (some cm), .map (some am)] 55 (0, 0)), (qm, .map qes qc), (cm, .map #[] 0), (am, .map #[] 0)]
def prs (n a : Nat) : List (Nat × Nat) := (List.range a).flatMap fun i => (List.range n).map fun j => (i, j)
def newR (n a : Nat) (nd : Nat → NodB) (qu : Nat × Nat → QB) : List (Nat × Obj) := ((List.range a).flatMap fun i => nodBl n (nd i) x0) ++ (prs n a).flatMap fun q => qBl (qu q)
structure NewOK (n a : Nat) (nd : Nat → NodB) (qu : Nat × Nat → QB) (nv : Value) (nacc : List (Nat × Obj)) (qes : Array MapEntry) (ql : List ((Nat × Nat) × Value)) : Prop where
  nv : Acc nv 1 56 a ((List.range a).map fun i => .pointer (some ⟨(nd i).nb, 0, none⟩)) nacc
  nd : ∀ i, i < a → NodOK n (nd i) x0
  qm : MapR int2V qes ql
  qg : ∀ i j, i < a → j < n → get ql (i, j) = some (.pointer (some ⟨(qu (i, j)).qb, 0, none⟩)) ∧ qu (i, j) = ⟨(qu (i, j)).qb, .slice none 0 0, [], []⟩
structure NodNew (n a b nb hb : Nat) (d : NodB) (qj : Nat → QB) (qes : Array MapEntry) (ql ql' : List ((Nat × Nat) × Value)) : Prop where
  nb : d.nb = nb
  hb : d.hb = hb
  tv : d.tv = .slice none 0 0
  ta : d.tacc = []
  hes : d.hes = #[]
  hc : d.hc = 0
  g : ∀ k, k < b → d.ges k = #[]
  qm : MapR int2V qes ql'
  o : ∀ x y, x ≠ a → get ql' (x, y) = get ql (x, y)
  q : ∀ j, j < b → get ql' (a, j) = some (.pointer (some ⟨(qj j).qb, 0, none⟩)) ∧ qj j = ⟨(qj j).qb, .slice none 0 0, [], []⟩
def emptyQ (b : Nat) : QB := ⟨b, .slice none 0 0, [], []⟩
theorem nodBl_new {n a b nb hb : Nat} {d : NodB} {qj : Nat → QB} {qes : Array MapEntry} {ql ql' : List ((Nat × Nat) × Value)} (h : NodNew n a b nb hb d qj qes ql ql') : nodBl n d x0 = (nb, .cells (nodCells n d x0).toArray 61 (0, 0)) :: (hb, .map #[] 0) :: gots n d := by
  unfold nodBl nodA gots
  rw [h.nb, h.hb, h.ta, h.hes, h.hc]
  rfl
def quNew (qu : Nat × Nat → QB) (a : Nat) (qj : Nat → QB) : Nat × Nat → QB := fun q => if q.1 = a then qj q.2 else qu q
theorem newR_succ (n a : Nat) (nd : Nat → NodB) (qu : Nat × Nat → QB) (d : NodB) (qj : Nat → QB) : newR n (a + 1) (upd nd a d) (quNew qu a qj) = (((List.range a).flatMap fun i => nodBl n (nd i) x0) ++ nodBl n d x0) ++ (((prs n a).flatMap fun q => qBl (qu q)) ++ ((List.range n).flatMap fun j => qBl (qj j))) := by
  unfold newR
  congr 1
  · rw [List.range_succ, List.flatMap_append]
    congr 1
    · rw [List.flatMap_def, List.flatMap_def]
      congr 1
      refine List.map_congr_left fun i hi => ?_
      have : i ≠ a := by have := List.mem_range.1 hi; omega
      rw [upd_ne _ _ this]
    · simp only [List.flatMap_cons, List.flatMap_nil, upd_same, List.append_nil]
  · unfold prs
    rw [List.range_succ, List.flatMap_append, List.flatMap_append]
    congr 1
    · rw [List.flatMap_def, List.flatMap_def]
      congr 1
      refine List.map_congr_left fun q hq => ?_
      obtain ⟨i, hi, hq⟩ := List.mem_flatMap.1 hq
      obtain ⟨j, -, rfl⟩ := List.mem_map.1 hq
      have : i ≠ a := by have := List.mem_range.1 hi; omega
      unfold quNew
      rw [if_neg this]
    · simp only [List.flatMap_cons, List.flatMap_nil, List.append_nil, List.flatMap_map]
      rw [List.flatMap_def, List.flatMap_def]
      congr 1
      refine List.map_congr_left fun j _ => ?_
      unfold quNew
      rw [if_pos rfl]
end Go.Ne
namespace Go.Proofs
open Go Go.Pd Go.Ne
attribute [local irreducible] OpsL W RetQ OpsQ OpsC

theorem new_bad (z : Int) (hz : z < 1 ∨ 8 < z) (w : World) : Calls Try.prog 11 #[.int .i64 z] w (fun e w' => ∃ v, e = .returned v ∧ v = .tuple #[.pointer none, .int .i64 1] ∧ Ext w w') := by
  refine calls_of Try.func11 rfl Try.ntmps11 rfl ?_
  repeat' (first | refine a_mov ?_ | refine a_asg ?_ | refine a_binN ?_ | refine a_notd ?_ | refine a_notb ?_ | refine a_nilc ?_ | refine a_fa ?_ | refine a_ext ?_ | refine a_lenv ?_ | refine a_lens ?_ | refine a_pick_t ?_ | refine a_pick_f ?_ | refine a_not ?_ | refine a_nilf ?_ | (refine o_nil (hK _ _ ?_); clear hK K) | refine wk_reg ?_ | refine wk_seq fun K hK => ?_ | (refine wk_skip (hK _ _ ?_); clear hK K) | (refine wk_label (hK _ _ ?_); clear hK K) | refine wk_scope ?_ | refine wk_block ?_ | refine wk_cond_t rfl ?_ | refine wk_cond_f rfl ?_ | (refine wk_exit ?_; (repeat (refine blockK_other rfl ?_)); refine blockK_same ?_; try ((repeat ((fail_if_success (refine hK _ _ ?_)); clear hK K)); refine hK _ _ ?_; clear hK K)) | (refine a_bin ?_ ?_ <;> intro _ <;> try (exfalso; omega)) | refine a_ld hl ?_ | (refine a_st hl ?_; clear hl; intro _ hl) | refine a_ix (fun _ => ?_) | fail)
  all_goals (refine wk_ret (retQ_tmp2 Try.results11 (by decide) (by decide) rfl (by conv => lhs; whnf) (by conv => lhs; whnf) ?_))
  all_goals exact ⟨rfl, .refl _ _⟩

set_option maxHeartbeats 2000000 in
theorem new_calls (n : Nat) (hn : 1 ≤ n ∧ n ≤ 8) (w : World) : Calls Try.prog 11 #[.int .i64 (n : Int)] w (fun e w' => ∃ v, e = .returned v ∧ ∃ p, v = .tuple #[.pointer (some ⟨p, 0, none⟩), .int .i64 0] ∧ ∃ bl, LH w (fun _ => False) w' bl ∧ NetR (fun _ => False) (Ne.new n) p bl w') := by
  refine calls_of Try.func11 rfl Try.ntmps11 rfl ?_
  repeat' (first | refine a_mov ?_ | refine a_asg ?_ | refine a_binN ?_ | refine a_notd ?_ | refine a_notb ?_ | refine a_nilc ?_ | refine a_fa ?_ | refine a_ext ?_ | refine a_lenv ?_ | refine a_lens ?_ | refine a_pick_t ?_ | refine a_pick_f ?_ | refine a_not ?_ | refine a_nilf ?_ | (refine o_nil (hK _ _ ?_); clear hK K) | refine wk_reg ?_ | refine wk_seq fun K hK => ?_ | (refine wk_skip (hK _ _ ?_); clear hK K) | (refine wk_label (hK _ _ ?_); clear hK K) | refine wk_scope ?_ | refine wk_block ?_ | refine wk_cond_t rfl ?_ | refine wk_cond_f rfl ?_ | (refine wk_exit ?_; (repeat (refine blockK_other rfl ?_)); refine blockK_same ?_; try ((repeat ((fail_if_success (refine hK _ _ ?_)); clear hK K)); refine hK _ _ ?_; clear hK K)) | (refine a_bin ?_ ?_ <;> intro _ <;> try (exfalso; omega)) | refine a_ld hl ?_ | (refine a_st hl ?_; clear hl; intro _ hl) | refine a_ix (fun _ => ?_) | fail)
  refine o_makeMap (LH.start w (fun _ => False)) rfl ?_
  intro qm w1 hqm hl1
  refine o_makeMap hl1 rfl ?_
  intro cm w2 hcm hl2
  refine o_makeMap hl2 rfl ?_
  intro am w3 ham hl3
  refine o_build [.slice none 0 0, .map (some qm), .map (some cm), .map (some am)] rfl (by kernel_rfl) ?_
  refine o_box hl3 [.slice none 0 0, .map (some qm), .map (some cm), .map (some am)] rfl rfl rfl ?_
  intro p w4 hp hl4
  replace hl4 := hl4.perm (l' := newT p qm cm am (.slice none 0 0) #[] 0) (by
    refine List.Perm.cons _ ?_
    refine (List.reverse_perm _).symm.trans ?_
    exact List.Perm.refl _)
  repeat' (first | refine a_mov ?_ | refine a_asg ?_ | refine a_binN ?_ | refine a_notd ?_ | refine a_notb ?_ | refine a_nilc ?_ | refine a_fa ?_ | refine a_ext ?_ | refine a_lenv ?_ | refine a_lens ?_ | refine a_pick_t ?_ | refine a_pick_f ?_ | refine a_not ?_ | refine a_nilf ?_ | (refine o_nil (hK _ _ ?_); clear hK K) | refine wk_reg ?_ | refine wk_seq fun K hK => ?_ | (refine wk_skip (hK _ _ ?_); clear hK K) | (refine wk_label (hK _ _ ?_); clear hK K) | refine wk_scope ?_ | refine wk_block ?_ | refine wk_cond_t rfl ?_ | refine wk_cond_f rfl ?_ | (refine wk_exit ?_; (repeat (refine blockK_other rfl ?_)); refine blockK_same ?_; try ((repeat ((fail_if_success (refine hK _ _ ?_)); clear hK K)); refine hK _ _ ?_; clear hK K)) | (refine a_bin ?_ ?_ <;> intro _ <;> try (exfalso; omega)) | refine a_ld hl ?_ | (refine a_st hl ?_; clear hl; intro _ hl) | refine a_ix (fun _ => ?_) | fail)
  refine wk_loopH [] rfl (fun a : Nat => [(0, .int .i64 (n : Int)), (4, .pointer (some ⟨p, 0, none⟩)), (19, .int .i64 (n : Int)), (20, .int .i64 (a : Int))])
    (fun a w' => a ≤ n ∧ ∃ nd qu nv nacc qes qc ql, LH w (fun _ => False) w' (newT p qm cm am nv qes qc ++ (newR n a nd qu ++ nacc)) ∧ NewOK n a nd qu nv nacc qes ql) (fun a => n - a) 0 ⟨rfl, rfl, rfl, rfl, trivial⟩ ⟨Nat.zero_le _, fun _ => ⟨0, 0, .slice none 0 0, [], #[], 0, fun _ => 0, fun _ => #[], fun _ => 0⟩, fun _ => ⟨0, .slice none 0 0, [], []⟩, .slice none 0 0, [], #[], 0, [], hl4, Acc.nil _ _, fun i hi => absurd hi (Nat.not_lt_zero _), MapR.nil, fun i j hi => absurd hi (Nat.not_lt_zero _)⟩ ?_
  rintro a t5 w5 ⟨ha, nd, qu, nv, nacc, qes, qc, ql, hl5, hok⟩
  by_cases ha1 : a < n
  · repeat' (first | refine a_mov ?_ | refine a_asg ?_ | refine a_binN ?_ | refine a_notd ?_ | refine a_notb ?_ | refine a_nilc ?_ | refine a_fa ?_ | refine a_ext ?_ | refine a_lenv ?_ | refine a_lens ?_ | refine a_pick_t ?_ | refine a_pick_f ?_ | refine a_not ?_ | refine a_nilf ?_ | (refine o_nil (hK _ _ ?_); clear hK K) | refine wk_reg ?_ | refine wk_seq fun K hK => ?_ | (refine wk_skip (hK _ _ ?_); clear hK K) | (refine wk_label (hK _ _ ?_); clear hK K) | refine wk_scope ?_ | refine wk_block ?_ | refine wk_cond_t rfl ?_ | refine wk_cond_f rfl ?_ | (refine wk_exit ?_; (repeat (refine blockK_other rfl ?_)); refine blockK_same ?_; try ((repeat ((fail_if_success (refine hK _ _ ?_)); clear hK K)); refine hK _ _ ?_; clear hK K)) | (refine a_bin ?_ ?_ <;> intro _ <;> try (exfalso; omega)) | refine a_ld hl ?_ | (refine a_st hl ?_; clear hl; intro _ hl) | refine a_ix (fun _ => ?_) | fail)
    refine o_makeMap hl5 rfl ?_
    intro hb w6 hhb hl6
    refine o_build [.slice none 0 0, .map (some hb), .int .i64 0, .int .i64 0, .map none, .int .i64 0, .int .i64 0, .map none, .int .i64 0, .int .i64 0, .map none, .int .i64 0, .int .i64 0, .map none, .int .i64 0, .int .i64 0, .map none, .int .i64 0, .int .i64 0, .map none, .int .i64 0, .int .i64 0, .map none, .int .i64 0, .int .i64 0, .map none] rfl (by kernel_rfl) ?_
    let d0 : NodB := ⟨0, hb, .slice none 0 0, [], #[], 0, fun _ => 0, fun _ => #[], fun _ => 0⟩
    refine o_box hl6 (nodCells 0 d0 x0) rfl rfl (by kernel_rfl) ?_
    intro nb w7 hnb hl7
    repeat' (first | refine a_mov ?_ | refine a_asg ?_ | refine a_binN ?_ | refine a_notd ?_ | refine a_notb ?_ | refine a_nilc ?_ | refine a_fa ?_ | refine a_ext ?_ | refine a_lenv ?_ | refine a_lens ?_ | refine a_pick_t ?_ | refine a_pick_f ?_ | refine a_not ?_ | refine a_nilf ?_ | (refine o_nil (hK _ _ ?_); clear hK K) | refine wk_reg ?_ | refine wk_seq fun K hK => ?_ | (refine wk_skip (hK _ _ ?_); clear hK K) | (refine wk_label (hK _ _ ?_); clear hK K) | refine wk_scope ?_ | refine wk_block ?_ | refine wk_cond_t rfl ?_ | refine wk_cond_f rfl ?_ | (refine wk_exit ?_; (repeat (refine blockK_other rfl ?_)); refine blockK_same ?_; try ((repeat ((fail_if_success (refine hK _ _ ?_)); clear hK K)); refine hK _ _ ?_; clear hK K)) | (refine a_bin ?_ ?_ <;> intro _ <;> try (exfalso; omega)) | refine a_ld hl ?_ | (refine a_st hl ?_; clear hl; intro _ hl) | refine a_ix (fun _ => ?_) | fail)
    refine wk_loopH [] rfl (fun b : Nat => [(0, .int .i64 (n : Int)), (4, .pointer (some ⟨p, 0, none⟩)), (5, .int .i64 (a : Int)), (6, .pointer (some ⟨nb, 0, none⟩)), (19, .int .i64 (n : Int)), (20, .int .i64 (a : Int)), (26, .int .i64 (n : Int)), (27, .int .i64 (b : Int))])
      (fun b w' => b ≤ n ∧ ∃ d qj qes' qc' ql', LH w (fun _ => False) w' (newT p qm cm am nv qes' qc' ++ ((nb, .cells (nodCells b d x0).toArray 61 (0, 0)) :: (hb, .map #[] 0) :: (gots b d ++ (newR n a nd qu ++ (((List.range b).flatMap fun j => qBl (qj j)) ++ nacc))))) ∧ NodNew n a b nb hb d qj qes' ql ql') (fun b => n - b) 0 ⟨rfl, rfl, rfl, rfl, rfl, rfl, rfl, rfl, trivial⟩ ⟨Nat.zero_le _, { d0 with nb := nb }, fun _ => ⟨0, .slice none 0 0, [], []⟩, qes, qc, ql, ?_, ⟨rfl, rfl, rfl, rfl, rfl, rfl, fun _ h => absurd h (Nat.not_lt_zero _), hok.qm, fun _ _ _ => rfl, fun _ h => absurd h (Nat.not_lt_zero _)⟩⟩ ?_
    · exact LH.perm hl7 (List.perm_append_comm_assoc [_, _] (newT p qm cm am nv qes qc) (newR n a nd qu ++ nacc))
    · rintro b t8 w8 ⟨hb8, d, qj, qes', qc', ql', hl, hN⟩
      by_cases hbn : b < n
      · repeat' (first | refine a_mov ?_ | refine a_asg ?_ | refine a_binN ?_ | refine a_notd ?_ | refine a_notb ?_ | refine a_nilc ?_ | refine a_fa ?_ | refine a_ext ?_ | refine a_lenv ?_ | refine a_lens ?_ | refine a_pick_t ?_ | refine a_pick_f ?_ | refine a_not ?_ | refine a_nilf ?_ | (refine o_nil (hK _ _ ?_); clear hK K) | refine wk_reg ?_ | refine wk_seq fun K hK => ?_ | (refine wk_skip (hK _ _ ?_); clear hK K) | (refine wk_label (hK _ _ ?_); clear hK K) | refine wk_scope ?_ | refine wk_block ?_ | refine wk_cond_t rfl ?_ | refine wk_cond_f rfl ?_ | (refine wk_exit ?_; (repeat (refine blockK_other rfl ?_)); refine blockK_same ?_; try ((repeat ((fail_if_success (refine hK _ _ ?_)); clear hK K)); refine hK _ _ ?_; clear hK K)) | (refine a_bin ?_ ?_ <;> intro _ <;> try (exfalso; omega)) | refine a_ld hl ?_ | (refine a_st hl ?_; clear hl; intro _ hl) | refine a_ix (fun _ => ?_) | fail)
        refine o_makeMap hl rfl ?_
        clear hl
        intro gk w9 hgk hl9
        repeat' (first | refine a_mov ?_ | refine a_asg ?_ | refine a_binN ?_ | refine a_notd ?_ | refine a_notb ?_ | refine a_nilc ?_ | refine a_fa ?_ | refine a_ext ?_ | refine a_lenv ?_ | refine a_lens ?_ | refine a_pick_t ?_ | refine a_pick_f ?_ | refine a_not ?_ | refine a_nilf ?_ | (refine o_nil (hK _ _ ?_); clear hK K) | refine wk_reg ?_ | refine wk_seq fun K hK => ?_ | (refine wk_skip (hK _ _ ?_); clear hK K) | (refine wk_label (hK _ _ ?_); clear hK K) | refine wk_scope ?_ | refine wk_block ?_ | refine wk_cond_t rfl ?_ | refine wk_cond_f rfl ?_ | (refine wk_exit ?_; (repeat (refine blockK_other rfl ?_)); refine blockK_same ?_; try ((repeat ((fail_if_success (refine hK _ _ ?_)); clear hK K)); refine hK _ _ ?_; clear hK K)) | (refine a_bin ?_ ?_ <;> intro _ <;> try (exfalso; omega)) | refine a_ld hl ?_ | (refine a_st hl ?_; clear hl; intro _ hl) | refine a_ix (fun _ => ?_) | fail)
        refine o_indexArr (len := 8) (k := 3) b (by omega) rfl rfl rfl rfl rfl rfl ?_
        repeat' (first | refine a_mov ?_ | refine a_asg ?_ | refine a_binN ?_ | refine a_notd ?_ | refine a_notb ?_ | refine a_nilc ?_ | refine a_fa ?_ | refine a_ext ?_ | refine a_lenv ?_ | refine a_lens ?_ | refine a_pick_t ?_ | refine a_pick_f ?_ | refine a_not ?_ | refine a_nilf ?_ | (refine o_nil (hK _ _ ?_); clear hK K) | refine wk_reg ?_ | refine wk_seq fun K hK => ?_ | (refine wk_skip (hK _ _ ?_); clear hK K) | (refine wk_label (hK _ _ ?_); clear hK K) | refine wk_scope ?_ | refine wk_block ?_ | refine wk_cond_t rfl ?_ | refine wk_cond_f rfl ?_ | (refine wk_exit ?_; (repeat (refine blockK_other rfl ?_)); refine blockK_same ?_; try ((repeat ((fail_if_success (refine hK _ _ ?_)); clear hK K)); refine hK _ _ ?_; clear hK K)) | (refine a_bin ?_ ?_ <;> intro _ <;> try (exfalso; omega)) | refine a_ld hl ?_ | (refine a_st hl ?_; clear hl; intro _ hl) | refine a_ix (fun _ => ?_) | fail)
        refine o_put1 (v := .map (some gk)) (bl' := (gk, .map #[] 0) :: (newT p qm cm am nv qes' qc' ++ ((nb, .cells (nodCells (b + 1) { d with pg := upd d.pg b gk, ges := upd d.ges b #[], gc := upd d.gc b 0 } x0).toArray 61 (0, 0)) :: (hb, .map #[] 0) :: (gots b d ++ (newR n a nd qu ++ (((List.range b).flatMap fun j => qBl (qj j)) ++ nacc)))))) hl9 rfl rfl rfl ⟨rfl, rfl⟩ rfl (.there (.there (.there (.there (.there (.here (vs := nodCells b d x0) (blt_t (by show _ < 26; omega)) (cells_new b d (by omega) gk #[] 0))))))) ?_
        clear hl9
        intro w10 hl
        repeat' (first | refine a_mov ?_ | refine a_asg ?_ | refine a_binN ?_ | refine a_notd ?_ | refine a_notb ?_ | refine a_nilc ?_ | refine a_fa ?_ | refine a_ext ?_ | refine a_lenv ?_ | refine a_lens ?_ | refine a_pick_t ?_ | refine a_pick_f ?_ | refine a_not ?_ | refine a_nilf ?_ | (refine o_nil (hK _ _ ?_); clear hK K) | refine wk_reg ?_ | refine wk_seq fun K hK => ?_ | (refine wk_skip (hK _ _ ?_); clear hK K) | (refine wk_label (hK _ _ ?_); clear hK K) | refine wk_scope ?_ | refine wk_block ?_ | refine wk_cond_t rfl ?_ | refine wk_cond_f rfl ?_ | (refine wk_exit ?_; (repeat (refine blockK_other rfl ?_)); refine blockK_same ?_; try ((repeat ((fail_if_success (refine hK _ _ ?_)); clear hK K)); refine hK _ _ ?_; clear hK K)) | (refine a_bin ?_ ?_ <;> intro _ <;> try (exfalso; omega)) | refine a_ld hl ?_ | (refine a_st hl ?_; clear hl; intro _ hl) | refine a_ix (fun _ => ?_) | fail)
        refine o_build [.int .i64 (a : Int), .int .i64 (b : Int)] rfl (by kernel_rfl) ?_
        refine o_build [.slice none 0 0] rfl (by kernel_rfl) ?_
        refine o_box hl [.slice none 0 0] rfl rfl rfl ?_
        clear hl
        intro qb w11 hqb hl
        refine o_mapUpdate (v := .pointer (some ⟨qb, 0, none⟩)) (a, b) hl 3 rfl hN.qm (key_int2 rfl rfl rfl) rfl rfl rfl rfl rfl ?_
        clear hl
        intro w12 es12 c12 hm12 hl
        have hl13 := LH.perm (w := w12) (w0 := w) (M := fun _ => False) (by exact hl) (perm_new (qb, .cells #[.slice none 0 0] 65 (0, 0)) (gk, .map #[] 0) (newT p qm cm am nv es12 c12 ++ [(nb, .cells (nodCells (b + 1) { d with pg := upd d.pg b gk, ges := upd d.ges b #[], gc := upd d.gc b 0 } x0).toArray 61 (0, 0)), (hb, .map #[] 0)]) (gots b d) (newR n a nd qu) ((List.range b).flatMap fun j => qBl (qj j)) nacc)
        clear hl
        rw [← gots_succ] at hl13
        have hqj : ((List.range b).flatMap fun j => qBl (qj j)) ++ [(qb, Obj.cells #[.slice none 0 0] 65 (0, 0))] = (List.range (b + 1)).flatMap fun j => qBl (upd qj b ⟨qb, .slice none 0 0, [], []⟩ j) := by
          rw [List.range_succ, List.flatMap_append]
          congr 1
          · rw [List.flatMap_def, List.flatMap_def]
            congr 1
            refine List.map_congr_left fun j hj => ?_
            have : j ≠ b := by have := List.mem_range.1 hj; omega
            rw [upd_ne _ _ this]
          · simp only [List.flatMap_cons, List.flatMap_nil, upd_same]
            rfl
        rw [hqj] at hl13
        repeat' (first | refine a_mov ?_ | refine a_asg ?_ | refine a_binN ?_ | refine a_notd ?_ | refine a_notb ?_ | refine a_nilc ?_ | refine a_fa ?_ | refine a_ext ?_ | refine a_lenv ?_ | refine a_lens ?_ | refine a_pick_t ?_ | refine a_pick_f ?_ | refine a_not ?_ | refine a_nilf ?_ | (refine o_nil (hK _ _ ?_); clear hK K) | refine wk_reg ?_ | refine wk_seq fun K hK => ?_ | (refine wk_skip (hK _ _ ?_); clear hK K) | (refine wk_label (hK _ _ ?_); clear hK K) | refine wk_scope ?_ | refine wk_block ?_ | refine wk_cond_t rfl ?_ | refine wk_cond_f rfl ?_ | (refine wk_exit ?_; (repeat (refine blockK_other rfl ?_)); refine blockK_same ?_; try ((repeat ((fail_if_success (refine hK _ _ ?_)); clear hK K)); refine hK _ _ ?_; clear hK K)) | (refine a_bin ?_ ?_ <;> intro _ <;> try (exfalso; omega)) | refine a_ld hl ?_ | (refine a_st hl ?_; clear hl; intro _ hl) | refine a_ix (fun _ => ?_) | fail)
        refine o_nil ⟨b + 1, ⟨rfl, rfl, rfl, rfl, rfl, rfl, rfl, rfl, trivial⟩, rfl, ⟨hbn, { d with pg := upd d.pg b gk, ges := upd d.ges b #[], gc := upd d.gc b 0 }, upd qj b ⟨qb, .slice none 0 0, [], []⟩, es12, c12, _, hl13, ⟨hN.nb, hN.hb, hN.tv, hN.ta, hN.hes, hN.hc, fun k hk => ?_, hm12, fun x y hx => ?_, fun j hj => ?_⟩⟩, by omega⟩
        · show upd d.ges b #[] k = #[]
          by_cases e : k = b
          · subst e; rw [upd_same]
          · rw [upd_ne _ _ e]; exact hN.g k (by omega)
        · rw [get_ins, if_neg (fun e => hx (Prod.mk.inj e).1)]; exact hN.o x y hx
        · rw [get_ins]
          by_cases e : j = b
          · subst e
            rw [if_pos rfl, upd_same]
            exact ⟨rfl, rfl⟩
          · rw [if_neg (fun h => e (Prod.mk.inj h).2), upd_ne _ _ e]
            exact hN.q j (by omega)
      · obtain rfl : b = n := by omega
        repeat' (first | refine a_mov ?_ | refine a_asg ?_ | refine a_binN ?_ | refine a_notd ?_ | refine a_notb ?_ | refine a_nilc ?_ | refine a_fa ?_ | refine a_ext ?_ | refine a_lenv ?_ | refine a_lens ?_ | refine a_pick_t ?_ | refine a_pick_f ?_ | refine a_not ?_ | refine a_nilf ?_ | (refine o_nil (hK _ _ ?_); clear hK K) | refine wk_reg ?_ | refine wk_seq fun K hK => ?_ | (refine wk_skip (hK _ _ ?_); clear hK K) | (refine wk_label (hK _ _ ?_); clear hK K) | refine wk_scope ?_ | refine wk_block ?_ | refine wk_cond_t rfl ?_ | refine wk_cond_f rfl ?_ | (refine wk_exit ?_; (repeat (refine blockK_other rfl ?_)); refine blockK_same ?_; try ((repeat ((fail_if_success (refine hK _ _ ?_)); clear hK K)); refine hK _ _ ?_; clear hK K)) | (refine a_bin ?_ ?_ <;> intro _ <;> try (exfalso; omega)) | refine a_ld hl ?_ | (refine a_st hl ?_; clear hl; intro _ hl) | refine a_ix (fun _ => ?_) | fail)
        refine o_buildSlice hl [.pointer (some ⟨nb, 0, none⟩)] rfl rfl (by kernel_rfl) ?_
        clear hl
        intro bs w9 hbs hl
        have hl9 : LH w (fun _ => False) w9 (((bs, Obj.cells #[.pointer (some ⟨nb, 0, none⟩)] 56 (0, 0)) :: (newT p qm cm am nv qes' qc' ++ ((nb, .cells (nodCells b d x0).toArray 61 (0, 0)) :: (hb, .map #[] 0) :: (gots b d ++ (newR b a nd qu ++ ((List.range b).flatMap fun j => qBl (qj j))))))) ++ nacc) := by
          simpa only [List.cons_append, List.append_assoc] using hl
        clear hl
        refine o_append (k := 1) (bytes := 8) (q := 1) (us := [.pointer (some ⟨nb, 0, none⟩)]) hl9 hok.nv (hl9.rowL (vs := [.pointer (some ⟨nb, 0, none⟩)]) 0 0 1 rfl) rfl rfl (by omega) (by omega) (by omega) rfl rfl rfl rfl rfl ?_
        clear hl9
        intro nv' w10 nacc' hl10 hac
        obtain ⟨va, vc, rfl⟩ := hac.shape
        repeat' (first | refine a_mov ?_ | refine a_asg ?_ | refine a_binN ?_ | refine a_notd ?_ | refine a_notb ?_ | refine a_nilc ?_ | refine a_fa ?_ | refine a_ext ?_ | refine a_lenv ?_ | refine a_lens ?_ | refine a_pick_t ?_ | refine a_pick_f ?_ | refine a_not ?_ | refine a_nilf ?_ | (refine o_nil (hK _ _ ?_); clear hK K) | refine wk_reg ?_ | refine wk_seq fun K hK => ?_ | (refine wk_skip (hK _ _ ?_); clear hK K) | (refine wk_label (hK _ _ ?_); clear hK K) | refine wk_scope ?_ | refine wk_block ?_ | refine wk_cond_t rfl ?_ | refine wk_cond_f rfl ?_ | (refine wk_exit ?_; (repeat (refine blockK_other rfl ?_)); refine blockK_same ?_; try ((repeat ((fail_if_success (refine hK _ _ ?_)); clear hK K)); refine hK _ _ ?_; clear hK K)) | (refine a_bin ?_ ?_ <;> intro _ <;> try (exfalso; omega)) | refine a_ld hl ?_ | (refine a_st hl ?_; clear hl; intro _ hl) | refine a_ix (fun _ => ?_) | fail)
        refine o_put1 (v := .slice va (a + 1) vc) (bl' := ((bs, Obj.cells #[.pointer (some ⟨nb, 0, none⟩)] 56 (0, 0)) :: (newT p qm cm am (.slice va (a + 1) vc) qes' qc' ++ ((nb, .cells (nodCells b d x0).toArray 61 (0, 0)) :: (hb, .map #[] 0) :: (gots b d ++ (newR b a nd qu ++ ((List.range b).flatMap fun j => qBl (qj j))))))) ++ nacc') hl10 rfl rfl rfl ⟨rfl, rfl⟩ rfl (.there (.here (vs := [nv, .map (some qm), .map (some cm), .map (some am)]) rfl rfl)) ?_
        clear hl10
        intro w11 hl11
        have hl12 : LH w (fun _ => False) w11 (newT p qm cm am (.slice va (a + 1) vc) qes' qc' ++ (newR b (a + 1) (upd nd a d) (quNew qu a qj) ++ nacc')) := by
          have h1 := LH.sub hl11 (l' := (newT p qm cm am (.slice va (a + 1) vc) qes' qc' ++ ((nb, .cells (nodCells b d x0).toArray 61 (0, 0)) :: (hb, .map #[] 0) :: (gots b d ++ (newR b a nd qu ++ ((List.range b).flatMap fun j => qBl (qj j)))))) ++ nacc') (List.sublist_cons_self _ _)
          refine LH.perm h1 ?_
          rw [newR_succ, nodBl_new hN]
          unfold newR
          have h2 := List.perm_append_comm_assoc ((nb, Obj.cells (nodCells b d x0).toArray 61 (0, 0)) :: (hb, .map #[] 0) :: gots b d) ((List.range a).flatMap fun i => nodBl b (nd i) x0) (((prs b a).flatMap fun q => qBl (qu q)) ++ (((List.range b).flatMap fun j => qBl (qj j)) ++ nacc'))
          have h3 := h2.append_left (newT p qm cm am (.slice va (a + 1) vc) qes' qc')
          simpa only [List.cons_append, List.append_assoc] using h3
        clear hl11
        repeat' (first | refine a_mov ?_ | refine a_asg ?_ | refine a_binN ?_ | refine a_notd ?_ | refine a_notb ?_ | refine a_nilc ?_ | refine a_fa ?_ | refine a_ext ?_ | refine a_lenv ?_ | refine a_lens ?_ | refine a_pick_t ?_ | refine a_pick_f ?_ | refine a_not ?_ | refine a_nilf ?_ | (refine o_nil (hK _ _ ?_); clear hK K) | refine wk_reg ?_ | refine wk_seq fun K hK => ?_ | (refine wk_skip (hK _ _ ?_); clear hK K) | (refine wk_label (hK _ _ ?_); clear hK K) | refine wk_scope ?_ | refine wk_block ?_ | refine wk_cond_t rfl ?_ | refine wk_cond_f rfl ?_ | (refine wk_exit ?_; (repeat (refine blockK_other rfl ?_)); refine blockK_same ?_; try ((repeat ((fail_if_success (refine hK _ _ ?_)); clear hK K)); refine hK _ _ ?_; clear hK K)) | (refine a_bin ?_ ?_ <;> intro _ <;> try (exfalso; omega)) | refine a_ld hl ?_ | (refine a_st hl ?_; clear hl; intro _ hl) | refine a_ix (fun _ => ?_) | fail)
        refine o_nil ⟨a + 1, ⟨rfl, rfl, rfl, rfl, trivial⟩, rfl, ⟨ha1, upd nd a d, quNew qu a qj, .slice va (a + 1) vc, nacc', qes', qc', ql', hl12, ⟨?_, fun i hi => ?_, hN.qm, fun i j hi hj => ?_⟩⟩, by omega⟩
        · have e : ((List.range (a + 1)).map fun i => Value.pointer (some ⟨(upd nd a d i).nb, 0, none⟩)) = ((List.range a).map fun i => Value.pointer (some ⟨(nd i).nb, 0, none⟩)) ++ [.pointer (some ⟨nb, 0, none⟩)] := by
            rw [List.range_succ, List.map_append]
            congr 1
            · refine List.map_congr_left fun i hi => ?_
              have : i ≠ a := by have := List.mem_range.1 hi; omega
              rw [upd_ne _ _ this]
            · simp only [List.map_cons, List.map_nil, upd_same, hN.nb]
          rw [e]; exact hac
        · by_cases e : i = a
          · subst e
            rw [upd_same]
            refine ⟨?_, ?_, fun k hk => ?_⟩
            · rw [hN.tv, hN.ta]; exact Acc.nil _ _
            · rw [hN.hes]; exact MapR.nil
            · rw [hN.g k hk]; exact MapR.nil
          · rw [upd_ne _ _ e]; exact hok.nd i (by omega)
        · unfold quNew
          by_cases e : i = a
          · subst e
            simp only [if_true]
            exact hN.q j hj
          · simp only [if_neg e]
            rw [hN.o i j e]
            exact hok.qg i j (by omega) hj
  · obtain rfl : a = n := by omega
    repeat' (first | refine a_mov ?_ | refine a_asg ?_ | refine a_binN ?_ | refine a_notd ?_ | refine a_notb ?_ | refine a_nilc ?_ | refine a_fa ?_ | refine a_ext ?_ | refine a_lenv ?_ | refine a_lens ?_ | refine a_pick_t ?_ | refine a_pick_f ?_ | refine a_not ?_ | refine a_nilf ?_ | (refine o_nil (hK _ _ ?_); clear hK K) | refine wk_reg ?_ | refine wk_seq fun K hK => ?_ | (refine wk_skip (hK _ _ ?_); clear hK K) | (refine wk_label (hK _ _ ?_); clear hK K) | refine wk_scope ?_ | refine wk_block ?_ | refine wk_cond_t rfl ?_ | refine wk_cond_f rfl ?_ | (refine wk_exit ?_; (repeat (refine blockK_other rfl ?_)); refine blockK_same ?_; try ((repeat ((fail_if_success (refine hK _ _ ?_)); clear hK K)); refine hK _ _ ?_; clear hK K)) | (refine a_bin ?_ ?_ <;> intro _ <;> try (exfalso; omega)) | refine a_ld hl ?_ | (refine a_st hl ?_; clear hl; intro _ hl) | refine a_ix (fun _ => ?_) | fail)
    refine wk_ret (retQ_tmp2 Try.results11 (by decide) (by decide) rfl (by conv => lhs; whnf) (by conv => lhs; whnf) ?_)
    have hpm : (newT p qm cm am nv qes qc ++ (newR a a nd qu ++ nacc)).Perm (NetB.bl ⟨p, nv, nacc, qm, cm, am, qes, qc, ql, #[], 0, [], #[], 0, nd, qu, fun _ => False⟩ (Ne.new a)) := by
      refine List.Perm.append_left (newT p qm cm am nv qes qc) ?_
      exact List.perm_append_comm
    have hl6 := LH.perm hl5 hpm
    refine ⟨p, rfl, _, hl6, ⟨p, nv, nacc, qm, cm, am, qes, qc, ql, #[], 0, [], #[], 0, nd, qu, fun _ => False⟩, rfl, rfl, rfl, ⟨hn, hok.nv, hok.nd, hok.qm, fun i j hi hj => (hok.qg i j hi hj).1, fun i j hi hj => ?_, fun b h => h.elim, MapR.nil, fun x y => rfl, MapR.nil⟩, hl6.owned⟩
    have hq := (hok.qg i j hi hj).2
    refine ⟨?_, ?_, fun z hz => ?_⟩
    · show AccO (qu (i, j)).qv 3 _ 0 ((qu (i, j)).l.flatMap msgC) (qu (i, j)).qacc
      rw [hq]; exact AccO.nil _ _
    · show (qu (i, j)).l.map (·.2) = []
      rw [hq]; rfl
    · have hz : z ∈ (qu (i, j)).l := hz
      rw [hq] at hz
      cases hz
end Go.Proofs
