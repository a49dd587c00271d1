/-
  Migrations: is a migration formed, is it valid.
-/
import Derived.Test.YtpmjolbnmoejdaaGreatDoorQToV
set_option linter.unusedVariables false
set_option linter.unusedSimpArgs false
set_option linter.unnecessarySimpa false
set_option maxRecDepth 10000
namespace Go.Pd
open Go Go.Proofs
section
variable {P : Program} {r : Option Nat} {n : Nat} {ops : Array Oper} {K : St → World → Prop} {X : List PanicEntry → St → World → Prop} {l : List Oper} {s : St} {w : World} {d : Nat} {ty : TypeId} {p : String} {af : Array Edge} {g : Option (Nat × Bool)}
theorem o_max3 {ats : Array TypeId} {x y z : Operand} {kk : IntKind} {a b c : Int} (hk : OpsL P r n ops K X l (s.set d (.int kk (max (max a b) c))) w) (hw : Region.wanted ⟨some d, .call ⟨.builtin .max, #[x, y, z], ats⟩, ty, p, af, g⟩ (yieldedE ops n s) = true := by rfl) (hx : rd n s x = .int kk a := by rfl) (hy : rd n s y = .int kk b := by rfl) (hz : rd n s z = .int kk c := by rfl) :
    OpsL P r n ops K X (⟨some d, .call ⟨.builtin .max, #[x, y, z], ats⟩, ty, p, af, g⟩ :: l) s w := by
  refine o_val hw ?_ hk
  rw [Oper.semAt_eq _ _ _ (fun c e => by cases e)]
  have e0 : ∀ a b : Int, (if b > a then b else a) = max a b := fun a b => by
    by_cases h : b > a
    · rw [if_pos h]; omega
    · rw [if_neg h]; omega
  simp only [execOp, resolve, List.map_toArray, List.map_cons, List.map_nil, hx, hy, hz]
  rw [sem_bind (w' := w) rfl]
  simp [invoke, builtin, Builtin.max_, Builtin.max2, bind, Sem.bind, pure, Sem.run, e0]
end
end Go.Pd
namespace Go.Top
theorem maxI_snoc (x : Int) : ∀ (l : List Int), l ≠ [] → maxI (l ++ [x]) = max (maxI l) x
  | [], h => absurd rfl h
  | [a], _ => rfl
  | a :: b :: r, _ => by
    have ih := maxI_snoc x (b :: r) (by simp)
    simp only [List.cons_append] at ih
    simp only [List.cons_append, maxI, ih]
    omega
end Go.Top
namespace Go.Proofs
open Go Go.Pd Go.Top
open Go.Fin (Nm)
attribute [local irreducible] OpsL W RetQ OpsQ OpsC
def pairL (q : Pair) : List Value := [str q.x, str q.y]
theorem pairL_len (q : Pair) : (pairL q).length = 2 := rfl
theorem pair_one (q : Pair) : (pairL q).all Value.oneCell' = true := by simp only [pairL, List.all_cons, str_eq]; rfl
structure GV where
  s : Value
  r : Value
  t : Value
def migL (g : Mig) (x : GV) : List Value := [str g.src, str g.dst, x.s, x.r, x.t]
theorem migL_len (g : Mig) (x : GV) : (migL g x).length = 5 := rfl
def MigIn (w : World) (g : Mig) (x : GV) : Prop :=
  (Sl w x.s 1 (g.stages.flatMap intL) ∧ g.stages.length ≤ 140737488351232) ∧ (Sl w x.r 2 (g.rights.flatMap pairL) ∧ g.rights.length ≤ 140737488351232) ∧ (LimsIn w g.terms x.t ∧ g.terms.length ≤ 140737488351232)
theorem MigIn.ext {w w' : World} {g : Mig} {x : GV} (h : MigIn w g x) (e : Ext w w') : MigIn w' g x := ⟨⟨h.1.1.ext e, h.1.2⟩, ⟨h.2.1.1.ext e, h.2.1.2⟩, h.2.2.1.ext e, h.2.2.2⟩
theorem badStage_calls (z : Int) (w : World) : Calls Tryz.prog 50 #[.int .i64 z] w (fun e w' => ∃ v, e = .returned v ∧ v = .bool (!decide (-1 ≤ z ∧ z < 60)) ∧ Ext w w') := by
  refine calls_of Tryz.func50 rfl Tryz.ntmps50 rfl ?_
  repeat' (first | refine a_mov ?_ | refine a_asg ?_ | refine a_pick_t ?_ | refine a_pick_f ?_ | refine a_not ?_ | (refine o_nil (hK _ _ ?_); clear hK K) | refine wk_reg ?_ | refine wk_seq fun K hK => ?_ | (refine a_bin ?_ ?_ <;> intro _ <;> try (exfalso; omega)) | fail)
  all_goals (refine wk_ret (retQ_tmp1 Tryz.results50 (by decide) rfl (by conv => lhs; whnf) ?_))
  all_goals (refine ⟨congrArg Value.bool ?_, .refl _ _⟩; first | (rw [eq_comm, Bool.not_eq_true', decide_eq_false_iff_not]; omega) | (rw [eq_comm, Bool.not_eq_false', decide_eq_true_iff]; omega))
theorem badPair_calls (q : Pair) {w : World} (ht : Tabs w) : Calls Tryz.prog 51 #[.agg (pairL q).toArray] w (fun e w' => ∃ v, e = .returned v ∧ v = .bool (!(Nm q.x && Nm q.y)) ∧ Ext w w') := by
  refine calls_of Tryz.func51 rfl Tryz.ntmps51 rfl ?_
  repeat' (first | refine a_mov ?_ | refine a_asg ?_ | refine a_notb ?_ | refine a_pick_t ?_ | refine a_pick_f ?_ | refine a_not ?_ | (refine o_nil (hK _ _ ?_); clear hK K) | refine wk_reg ?_ | refine wk_seq fun K hK => ?_ | fail)
  refine o_box (LH.start w (fun _ => False)) (pairL q) (by rfl) rfl rfl ?_
  intro b1 w1 hb1 hl
  have hr : Row w1 b1 0 [str q.x, str q.y] := hl.rowL (vs := pairL q) 0 0 2 rfl
  have e1 : Ext w w1 := hl.done
  clear hl
  repeat' (first | refine o_indexArr (k := 1) 0 (by omega) rfl rfl rfl rfl rfl (by omega) ?_ | refine a_row hr ?_ | refine a_mov ?_ | refine a_asg ?_ | refine a_notb ?_ | refine a_pick_t ?_ | refine a_pick_f ?_ | refine a_not ?_ | (refine o_nil (hK _ _ ?_); clear hK K) | refine wk_reg ?_ | refine wk_seq fun K hK => ?_ | fail)
  refine a_fn (gname_calls q.x (ht.ext e1)) ?_
  rintro v w2 ⟨rfl, e2⟩
  replace hr := hr.ext e2
  replace e2 := e1.trans e2
  cases h1 : Nm q.x
  · repeat' (first | refine a_mov ?_ | refine a_asg ?_ | refine a_notb ?_ | refine a_pick_t ?_ | refine a_pick_f ?_ | refine a_not ?_ | (refine o_nil (hK _ _ ?_); clear hK K) | refine wk_reg ?_ | refine wk_seq fun K hK => ?_ | fail)
    refine wk_ret (retQ_tmp1 Tryz.results51 (by decide) rfl (by conv => lhs; whnf) ?_)
    exact ⟨by rw [h1]; rfl, e2⟩
  repeat' (first | refine o_indexArr (k := 1) 1 (by omega) rfl rfl rfl rfl rfl (by omega) ?_ | refine a_row hr ?_ | refine a_mov ?_ | refine a_asg ?_ | refine a_notb ?_ | refine a_pick_t ?_ | refine a_pick_f ?_ | refine a_not ?_ | (refine o_nil (hK _ _ ?_); clear hK K) | refine wk_reg ?_ | refine wk_seq fun K hK => ?_ | fail)
  refine a_fn (gname_calls q.y (ht.ext e2)) ?_
  rintro v w3 ⟨rfl, e3⟩
  cases h2 : Nm q.y
  all_goals repeat' (first | refine a_mov ?_ | refine a_asg ?_ | refine a_notb ?_ | refine a_pick_t ?_ | refine a_pick_f ?_ | refine a_not ?_ | (refine o_nil (hK _ _ ?_); clear hK K) | refine wk_reg ?_ | refine wk_seq fun K hK => ?_ | fail)
  all_goals (refine wk_ret (retQ_tmp1 Tryz.results51 (by decide) rfl (by conv => lhs; whnf) ?_))
  all_goals exact ⟨by rw [h1, h2]; rfl, e2.trans e3⟩
theorem badTerm_calls {p : Lim × Value} {w : World} (h : LimIn w p) : Calls Tryz.prog 53 #[.agg (limL p).toArray] w (fun e w' => ∃ v, e = .returned v ∧ v = .bool (!termL p.1) ∧ Ext w w') := by
  refine calls_of Tryz.func53 rfl Tryz.ntmps53 rfl ?_
  repeat' (first | refine a_asg ?_ | refine a_notb ?_ | (refine o_nil (hK _ _ ?_); clear hK K) | refine wk_reg ?_ | refine wk_seq fun K hK => ?_ | fail)
  refine o_box (LH.start w (fun _ => False)) (limL p) (by rfl) rfl rfl ?_
  intro b1 w1 hb1 hl
  repeat' (first | refine a_asg ?_ | refine a_notb ?_ | (refine o_nil (hK _ _ ?_); clear hK K) | refine wk_reg ?_ | refine wk_seq fun K hK => ?_ | fail)
  refine a_all (vs := limL p) (hl.rowL 0 0 5 rfl) ?_
  refine a_fn (term_calls (h.ext hl.done)) ?_
  rintro v w2 ⟨rfl, e2⟩
  cases h1 : termL p.1
  all_goals repeat' (first | refine a_asg ?_ | refine a_notb ?_ | (refine o_nil (hK _ _ ?_); clear hK K) | refine wk_reg ?_ | refine wk_seq fun K hK => ?_ | fail)
  all_goals (refine wk_ret (retQ_tmp1 Tryz.results53 (by decide) rfl (by conv => lhs; whnf) ?_))
  all_goals exact ⟨by rw [h1], hl.done.trans e2⟩
theorem pairKey_calls (q : Pair) (w : World) : Calls Tryz.prog 59 #[.agg (pairL q).toArray] w (fun e w' => ∃ v, e = .returned v ∧ v = str q.x ∧ Ext w w') := by
  refine calls_of Tryz.func59 rfl Tryz.ntmps59 rfl ?_
  repeat' (first | refine a_asg ?_ | (refine o_nil (hK _ _ ?_); clear hK K) | refine wk_reg ?_ | refine wk_seq fun K hK => ?_ | fail)
  refine o_box (LH.start w (fun _ => False)) (pairL q) (by rfl) rfl rfl ?_
  intro b1 w1 hb1 hl
  have hr : Row w1 b1 0 [str q.x, str q.y] := hl.rowL (vs := pairL q) 0 0 2 rfl
  repeat' (first | refine o_indexArr (k := 1) 0 (by omega) rfl rfl rfl rfl rfl (by omega) ?_ | refine a_row hr ?_ | refine a_asg ?_ | (refine o_nil (hK _ _ ?_); clear hK K) | refine wk_reg ?_ | refine wk_seq fun K hK => ?_ | fail)
  refine wk_ret (retQ_tmp1 Tryz.results59 (by decide) rfl (by conv => lhs; whnf) ?_)
  exact ⟨rfl, hl.done⟩
theorem termKey_calls (p : Lim × Value) (w : World) : Calls Tryz.prog 60 #[.agg (limL p).toArray] w (fun e w' => ∃ v, e = .returned v ∧ v = str p.1.id ∧ Ext w w') := by
  refine calls_of Tryz.func60 rfl Tryz.ntmps60 rfl ?_
  repeat' (first | refine a_asg ?_ | refine a_fa ?_ | (refine o_nil (hK _ _ ?_); clear hK K) | refine wk_reg ?_ | refine wk_seq fun K hK => ?_ | fail)
  refine o_box (LH.start w (fun _ => False)) (limL p) (by rfl) rfl rfl ?_
  intro b1 w1 hb1 hl
  have hr : Row w1 b1 0 [str p.1.id, .int .i64 p.1.n, .int .i64 p.1.u, .int .i64 p.1.f, p.2] := hl.rowL (vs := limL p) 0 0 5 rfl
  repeat' (first | refine a_row hr ?_ | refine a_asg ?_ | refine a_fa ?_ | (refine o_nil (hK _ _ ?_); clear hK K) | refine wk_reg ?_ | refine wk_seq fun K hK => ?_ | fail)
  refine wk_ret (retQ_tmp1 Tryz.results60 (by decide) rfl (by conv => lhs; whnf) ?_)
  exact ⟨rfl, hl.done⟩
theorem thenKey_calls (p : Lim × Value) (w : World) : Calls Tryz.prog 29 #[.agg (limL p).toArray] w (fun e w' => ∃ v, e = .returned v ∧ v = str p.1.id ∧ Ext w w') := by
  refine calls_of Tryz.func29 rfl Tryz.ntmps29 rfl ?_
  repeat' (first | refine a_asg ?_ | refine a_fa ?_ | (refine o_nil (hK _ _ ?_); clear hK K) | refine wk_reg ?_ | refine wk_seq fun K hK => ?_ | fail)
  refine o_box (LH.start w (fun _ => False)) (limL p) (by rfl) rfl rfl ?_
  intro b1 w1 hb1 hl
  have hr : Row w1 b1 0 [str p.1.id, .int .i64 p.1.n, .int .i64 p.1.u, .int .i64 p.1.f, p.2] := hl.rowL (vs := limL p) 0 0 5 rfl
  repeat' (first | refine a_row hr ?_ | refine a_asg ?_ | refine a_fa ?_ | (refine o_nil (hK _ _ ?_); clear hK K) | refine wk_reg ?_ | refine wk_seq fun K hK => ?_ | fail)
  refine wk_ret (retQ_tmp1 Tryz.results29 (by decide) rfl (by conv => lhs; whnf) ?_)
  exact ⟨rfl, hl.done⟩
/-! ### Lists of a migration -/
theorem anyStage_calls {l : List Int} {hv : Value} {w : World} (h : Sl w hv 1 (l.flatMap intL)) (hn : l.length ≤ 140737488351232) : Calls Tryz.prog 55 #[hv, .func (.func 50) #[] #[]] w (fun e w' => ∃ v, e = .returned v ∧ v = .bool (!(l.all fun s => decide (-1 ≤ s ∧ s < 60))) ∧ Ext w w') := by
  refine Calls.mono (intAny_calls (f := intL) (q := fun z => !decide (-1 ≤ z ∧ z < 60)) intL_len h hn (fun z hz w1 e1 => ⟨_, _, _, rfl, fun _ => rfl, badStage_calls z w1⟩)) ?_
  rintro e w' ⟨v, h1, h2, h3⟩
  exact ⟨v, h1, by rw [h2, List.not_all_eq_any_not], h3⟩
theorem anyPair_calls {l : List Pair} {hv : Value} {w : World} (h : Sl w hv 2 (l.flatMap pairL)) (hn : l.length ≤ 140737488351232) (ht : Tabs w) : Calls Tryz.prog 56 #[hv, .func (.func 51) #[] #[]] w (fun e w' => ∃ v, e = .returned v ∧ v = .bool (!(l.all fun r => Nm r.x && Nm r.y)) ∧ Ext w w') := by
  refine Calls.mono (pairAny_calls (f := pairL) (q := fun r => !(Nm r.x && Nm r.y)) pairL_len h hn (fun z hz w1 e1 => ⟨_, _, _, rfl, fun _ => rfl, badPair_calls z (ht.ext e1)⟩)) ?_
  rintro e w' ⟨v, h1, h2, h3⟩
  exact ⟨v, h1, by rw [h2, List.not_all_eq_any_not], h3⟩
theorem anyTerm_calls {ls : List Lim} {hv : Value} {w : World} (h : LimsIn w ls hv) (hn : ls.length ≤ 140737488351232) : Calls Tryz.prog 57 #[hv, .func (.func 53) #[] #[]] w (fun e w' => ∃ v, e = .returned v ∧ v = .bool (!(ls.all termL)) ∧ Ext w w') := by
  obtain ⟨lp, rfl, hs, hl⟩ := h
  refine Calls.mono (limitAny_calls (f := limL) (q := fun p : Lim × Value => !termL p.1) limL_len hs (by simpa using hn) (fun p hp w1 e1 => ⟨_, _, _, rfl, fun _ => rfl, badTerm_calls ((hl p hp).ext e1)⟩)) ?_
  rintro e w' ⟨v, h1, h2, h3⟩
  exact ⟨v, h1, by rw [h2, List.not_all_eq_any_not, List.any_map]; rfl, h3⟩
theorem oncePair_calls {l : List Pair} {hv : Value} {w : World} (h : Sl w hv 2 (l.flatMap pairL)) (hn : l.length ≤ 140737488351232) : Calls Tryz.prog 58 #[hv, .func (.func 59) #[] #[]] w (fun e w' => ∃ v, e = .returned v ∧ v = .bool (decide (l.map Pair.x).Nodup) ∧ Ext w w') :=
  pairOnce_calls (f := pairL) (key := Pair.x) pairL_len (fun q _ => pair_one q) h hn (fun q hq w1 e1 => ⟨_, _, _, rfl, fun _ => rfl, pairKey_calls q w1⟩)
theorem onceTerm_calls {ls : List Lim} {hv : Value} {w : World} (h : LimsIn w ls hv) (hn : ls.length ≤ 140737488351232) : Calls Tryz.prog 28 #[hv, .func (.func 60) #[] #[]] w (fun e w' => ∃ v, e = .returned v ∧ v = .bool (decide (ls.map Lim.id).Nodup) ∧ Ext w w') := by
  obtain ⟨lp, rfl, hs, hl⟩ := h
  refine Calls.mono (limitOnce_calls (f := limL) (key := fun p : Lim × Value => p.1.id) limL_len (fun p hp => lim_one (hl p hp)) hs (by simpa using hn) (fun p hp w1 e1 => ⟨_, _, _, rfl, fun _ => rfl, termKey_calls p w1⟩)) ?_
  rintro e w' ⟨v, h1, h2, h3⟩
  exact ⟨v, h1, by rw [h2, List.map_map]; rfl, h3⟩
theorem onceThen_calls {ls : List Lim} {hv : Value} {w : World} (h : LimsIn w ls hv) (hn : ls.length ≤ 140737488351232) : Calls Tryz.prog 28 #[hv, .func (.func 29) #[] #[]] w (fun e w' => ∃ v, e = .returned v ∧ v = .bool (decide (ls.map Lim.id).Nodup) ∧ Ext w w') := by
  obtain ⟨lp, rfl, hs, hl⟩ := h
  refine Calls.mono (limitOnce_calls (f := limL) (key := fun p : Lim × Value => p.1.id) limL_len (fun p hp => lim_one (hl p hp)) hs (by simpa using hn) (fun p hp w1 e1 => ⟨_, _, _, rfl, fun _ => rfl, thenKey_calls p w1⟩)) ?_
  rintro e w' ⟨v, h1, h2, h3⟩
  exact ⟨v, h1, by rw [h2, List.map_map]; rfl, h3⟩
theorem maxInt_calls {l : List Int} {hv : Value} {w : World} (h : Sl w hv 1 (l.flatMap intL)) (hn : l.length ≤ 140737488351232) (hne : l ≠ []) : Calls Tryz.prog 25 #[hv] w (fun e w' => ∃ v, e = .returned v ∧ v = .int .i64 (maxI l) ∧ Ext w w') := by
  obtain ⟨ka, kc, rfl, hp⟩ := sl_each intL_len (by decide) h
  have hpos : 0 < l.length := List.length_pos_iff.2 hne
  obtain ⟨b0, o0, hp0, hr0⟩ := hp 0 hpos
  have hr0 := hr0 w (.refl _ _)
  refine calls_of Tryz.func25 rfl Tryz.ntmps25 rfl ?_
  repeat' (first | refine a_mov ?_ | refine a_asg ?_ | refine a_binN ?_ | refine a_lenv ?_ | (refine o_nil (hK _ _ ?_); clear hK K) | refine wk_reg ?_ | refine wk_seq fun K hK => ?_ | (refine wk_skip (hK _ _ ?_); clear hK K) | refine wk_block ?_ | refine wk_cond_t rfl ?_ | refine wk_cond_f rfl ?_ | (refine wk_exit ?_; (repeat (refine blockK_other rfl ?_)); refine blockK_same ?_; try ((repeat ((fail_if_success (refine hK _ _ ?_)); clear hK K)); refine hK _ _ ?_; clear hK K)) | (refine a_bin ?_ ?_ <;> intro _ <;> try (exfalso; omega)) | refine a_idx (c := 1) 0 hp0 ?_ | refine a_row hr0 ?_ (hj := ⟨0, rfl, rfl⟩) | fail)
  refine wk_loopH [] rfl (fun i : Nat => [(0, .slice ka l.length kc), (3, .int .i64 (maxI (l.take i))), (4, .int .i64 (i : Int))]) (fun i w' => (1 ≤ i ∧ i ≤ l.length) ∧ Ext w w') (fun i => l.length - i) 1 ⟨rfl, ?_, rfl, trivial⟩ ⟨⟨Nat.le_refl _, hpos⟩, .refl _ _⟩ ?_
  · cases l with
    | nil => exact absurd rfl hne
    | cons a r => rfl
  rintro i t w1 ⟨⟨h1, hi⟩, e1⟩
  by_cases hlt : i < l.length
  · obtain ⟨b, o, hpp, hr⟩ := hp i hlt
    have hr := hr w1 e1
    have hta : l.take (i + 1) = l.take i ++ [l[i]] := List.take_succ_eq_append_getElem hlt
    have hms := maxI_snoc l[i] (l.take i) (by intro h; have := congrArg List.length h; rw [List.length_take, List.length_nil] at this; omega)
    rw [← hta] at hms
    repeat' (first | refine a_mov ?_ | refine a_asg ?_ | refine a_binN ?_ | refine a_lenv ?_ | (refine o_nil (hK _ _ ?_); clear hK K) | refine wk_reg ?_ | refine wk_seq fun K hK => ?_ | (refine wk_skip (hK _ _ ?_); clear hK K) | refine wk_block ?_ | refine wk_cond_t rfl ?_ | refine wk_cond_f rfl ?_ | (refine wk_exit ?_; (repeat (refine blockK_other rfl ?_)); refine blockK_same ?_; try ((repeat ((fail_if_success (refine hK _ _ ?_)); clear hK K)); refine hK _ _ ?_; clear hK K)) | (refine a_bin ?_ ?_ <;> intro _ <;> try (exfalso; omega)) | refine a_idx (c := 1) i hpp ?_ | refine a_row hr ?_ (hj := ⟨0, rfl, rfl⟩) | refine o_max rfl rfl rfl ?_ | fail)
    exact o_nil ⟨i + 1, ⟨rfl, congrArg (Value.int .i64) hms.symm, rfl, trivial⟩, rfl, ⟨⟨by omega, hlt⟩, e1⟩, by omega⟩
  · obtain rfl : i = l.length := by omega
    rw [List.take_length]
    repeat' (first | refine a_mov ?_ | refine a_asg ?_ | refine a_binN ?_ | refine a_lenv ?_ | (refine o_nil (hK _ _ ?_); clear hK K) | refine wk_reg ?_ | refine wk_seq fun K hK => ?_ | (refine wk_skip (hK _ _ ?_); clear hK K) | refine wk_block ?_ | refine wk_cond_t rfl ?_ | refine wk_cond_f rfl ?_ | (refine wk_exit ?_; (repeat (refine blockK_other rfl ?_)); refine blockK_same ?_; try ((repeat ((fail_if_success (refine hK _ _ ?_)); clear hK K)); refine hK _ _ ?_; clear hK K)) | (refine a_bin ?_ ?_ <;> intro _ <;> try (exfalso; omega)) | fail)
    refine wk_ret (retQ_tmp1 Tryz.results25 (by decide) rfl (by conv => lhs; whnf) ?_)
    exact ⟨rfl, e1⟩
end Go.Proofs
