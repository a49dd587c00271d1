/-
  Migrations: two, one after the other, as one (Then).
-/
import Derived.Test.YtpmjolbnmoejdaaGreatDoorQToY
import Derived.Test.YtpmjolbnmoejdaaGreatDoorQL2
set_option linter.unusedVariables false
set_option linter.unusedSimpArgs false
set_option linter.unnecessarySimpa false
set_option maxRecDepth 10000
namespace Go.Top
def updS (h : Mig) (s : Int) : Int := if 0 ≤ s then h.stages.getD s.toNat (-1) else s
def stg (g h : Mig) (i : Nat) : List Int := (g.stages.take i).map (updS h) ++ g.stages.drop i
theorem stg_zero (g h : Mig) : stg g h 0 = g.stages := by simp [stg]
theorem stg_end (g h : Mig) : stg g h g.stages.length = (thenM g h).stages := by
  unfold stg thenM
  simp only [List.take_length, List.drop_length, List.append_nil]
  rfl
theorem stg_len (g h : Mig) (i : Nat) (hi : i ≤ g.stages.length) : (stg g h i).length = g.stages.length := by
  unfold stg
  rw [List.length_append, List.length_map, List.length_take, List.length_drop]
  omega
theorem stg_set (g h : Mig) {i : Nat} (hi : i < g.stages.length) : (stg g h i).set i (updS h g.stages[i]) = stg g h (i + 1) := by
  unfold stg
  have hl : ((g.stages.take i).map (updS h)).length = i := by rw [List.length_map, List.length_take]; omega
  rw [List.set_append_right _ _ (by omega), hl, Nat.sub_self, List.drop_eq_getElem_cons hi, List.set_cons_zero, List.take_succ_eq_append_getElem hi, List.map_append]
  simp
theorem stg_same (g h : Mig) {i : Nat} (hi : i < g.stages.length) (hs : g.stages[i] < 0) : stg g h (i + 1) = stg g h i := by
  have hu : updS h g.stages[i] = g.stages[i] := by unfold updS; rw [if_neg (by omega)]
  unfold stg
  rw [List.take_succ_eq_append_getElem hi, List.map_append, List.drop_eq_getElem_cons hi]
  simp [hu]
end Go.Top
namespace Go.Proofs
open Go Go.Pd Go.Top
attribute [local irreducible] OpsL W RetQ OpsQ OpsC
def zeroG : List Value := [.string ⟨#[]⟩, .string ⟨#[]⟩, .slice none 0 0, .slice none 0 0, .slice none 0 0]
def ThenOut (o : Option Mig) (v : Value) (w : World) : Prop := match o with
  | some b => ∃ z : GV, v = .tuple #[.agg (migL b z).toArray, .int .i64 0] ∧ MigIn w b z
  | none => ∃ e : Int, e ≠ 0 ∧ v = .tuple #[.agg zeroG.toArray, .int .i64 e]
/-! ### The region that makes the new migration -/
def RC (w0 : World) (g : Mig) (v : Value) (w : World) : Prop := ∃ acc, Acc v 1 3 g.stages.length (g.stages.flatMap intL) acc ∧ Own w0 acc w
def RT (w0 : World) (l : List (Lim × Value)) (v : Value) (w : World) : Prop := ∃ acc, Acc v 5 56 l.length (l.flatMap limL) acc ∧ Own w0 acc w
def RB (ta tb : Value) (v : Value) (w : World) : Prop := ∃ b, v = .slice (some ⟨b, 0, none⟩) 2 2 ∧ Row w b 0 [ta, tb]
def RM (w0 : World) (g h : Mig) (l : List (Lim × Value)) (v : Value) (w : World) : Prop := ∃ sv tv, v = .agg (migL (thenM g h) ⟨sv, .slice none 0 0, tv⟩).toArray ∧ RC w0 g sv w ∧ RT w0 l tv w
def RA (w0 : World) (v : Value) (w : World) : Prop := ∃ b, v = .pointer (some ⟨b, 0, none⟩) ∧ w0.heap.size ≤ b ∧ w.heap[b]? = some (.cells zeroG.toArray 30 (0, 0))
theorem RC.stb (w0 : World) (g : Mig) : Stb (RC w0 g) := fun v w w' ⟨a, h1, h2⟩ e => ⟨a, h1, h2.ext e⟩
theorem RT.stb (w0 : World) (l : List (Lim × Value)) : Stb (RT w0 l) := fun v w w' ⟨a, h1, h2⟩ e => ⟨a, h1, h2.ext e⟩
theorem RB.stb (ta tb : Value) : Stb (RB ta tb) := fun v w w' ⟨b, h1, h2⟩ e => ⟨b, h1, h2.ext e⟩
theorem RM.stb (w0 : World) (g h : Mig) (l : List (Lim × Value)) : Stb (RM w0 g h l) := fun v w w' ⟨s, t, h1, h2, h3⟩ e => ⟨s, t, h1, RC.stb _ _ _ _ _ h2 e, RT.stb _ _ _ _ _ h3 e⟩
theorem RA.stb (w0 : World) : Stb (RA w0) := fun v w w' ⟨b, h1, h2, h3⟩ e => ⟨b, h1, h2, (e.same b (Array.getElem?_eq_some_iff.1 h3).1 (fun h => h)).trans h3⟩
def RN (l : List Pair) (v : Value) (w : World) : Prop := ∃ b es c m, v = .map (some b) ∧ MapR str es m ∧ NamI l m ∧ w.heap[b]? = some (.map es c)
theorem RN.stb (l : List Pair) : Stb (RN l) := fun v w w' ⟨b, es, c, m, h1, h2, h3, h4⟩ e => ⟨b, es, c, m, h1, h2, h3, (e.same b (Array.getElem?_eq_some_iff.1 h4).1 (fun h => h)).trans h4⟩
theorem named_RN {g : Mig} {x : GV} {w : World} (h : MigIn w g x) : Calls Tryz.prog 20 #[.agg (migL g x).toArray] w (fun e w' => ∃ v, e = .returned v ∧ RN g.rights v w' ∧ Ext w w') := by
  refine Calls.mono (named_calls h) ?_
  rintro e w' ⟨v, h1, b, es, c, m, h2, h3, h4, h5⟩
  exact ⟨v, h1, ⟨b, es, c, m, h2, h3, h4, h5.get 0 rfl⟩, h5.done⟩
def RTh (w0 : World) (g h : Mig) (ta tb : Value) (l : List (Lim × Value)) (i : Nat) : Value → World → Prop :=
  bif Nat.beq i 6 then RC w0 g else bif Nat.beq i 11 then RB ta tb else bif Nat.beq i 12 then RT w0 l else bif Nat.beq i 13 then RM w0 g h l else RA w0
theorem RTh.stb (w0 : World) (g h : Mig) (ta tb : Value) (l : List (Lim × Value)) (i : Nat) : Stb (RTh w0 g h ta tb l i) :=
  (RC.stb _ _).cond ((RB.stb _ _).cond ((RT.stb _ _).cond ((RM.stb _ _ _ _).cond (RA.stb _) _) _) _) _
def newR (g h : Mig) : List Pair := g.rights.map fun r => { x := r.x, y := renB h.rights r.y }
def jnR (g h : Mig) (i : Nat) : List Pair := newR g h ++ (h.rights.take i).filter fun r => (find g.rights r.x).isNone
theorem jnR_zero (g h : Mig) : jnR g h 0 = newR g h := by simp [jnR]
theorem jnR_end (g h : Mig) : jnR g h h.rights.length = (thenM g h).rights := by
  unfold jnR
  rw [List.take_length]
  rfl
theorem jnR_succ (g h : Mig) {i : Nat} (hi : i < h.rights.length) : jnR g h (i + 1) = if (find g.rights h.rights[i].x).isNone = true then jnR g h i ++ [h.rights[i]] else jnR g h i := by
  unfold jnR
  rw [List.take_succ_eq_append_getElem hi, List.filter_append]
  split
  · rename_i hc
    simp [hc]
  · rename_i hc
    simp [hc]
theorem jnR_len (g h : Mig) (i : Nat) : (jnR g h i).length ≤ g.rights.length + h.rights.length := by
  unfold jnR newR
  rw [List.length_append, List.length_map]
  have h1 := List.length_filter_le (fun r : Pair => (find g.rights r.x).isNone) (h.rights.take i)
  have h2 : (h.rights.take i).length ≤ h.rights.length := by rw [List.length_take]; omega
  omega
theorem then_facts (g h : Mig) : thenB g h = (if migB g && migB h && decide (g.dst = h.src) && decide (maxI g.stages < (h.stages.length : Int)) then
    (if ((thenM g h).terms.map Lim.id).Nodup ∧ (thenM g h).rights.length ≤ 60 ∧ (thenM g h).terms.length ≤ 60 then some (thenM g h) else none)
  else none) := rfl
set_option maxHeartbeats 16000000 in
theorem then_calls {g h : Mig} {x y : GV} {w : World} (hg : MigIn w g x) (hh : MigIn w h y) (ht : Tabs w) : Calls Tryz.prog 11 #[.agg (migL g x).toArray, .agg (migL h y).toArray] w (fun e w' => ∃ v, e = .returned v ∧ ThenOut (thenB g h) v w' ∧ Ext w w') := by
  have hth := then_facts g h
  obtain ⟨sa, sc, ra, rc, ta, tc, rfl⟩ := gv_shape hg
  obtain ⟨sb, sd, rb, rd, tb, td, rfl⟩ := gv_shape hh
  refine calls_of Tryz.func11 rfl Tryz.ntmps11 rfl ?_
  repeat' (first | refine a_mov ?_ | refine a_asg ?_ | refine a_binN ?_ | refine a_notb ?_ | refine a_fa ?_ | refine a_ext ?_ | refine a_lenv ?_ | (refine o_nil (hK _ _ ?_); clear hK K) | refine wk_reg ?_ | refine wk_seq fun K hK => ?_ | (refine wk_skip (hK _ _ ?_); clear hK K) | refine wk_block ?_ | refine wk_cond_t rfl ?_ | refine wk_cond_f rfl ?_ | (refine wk_exit ?_; (repeat (refine blockK_other rfl ?_)); refine blockK_same ?_; try ((repeat ((fail_if_success (refine hK _ _ ?_)); clear hK K)); refine hK _ _ ?_; clear hK K)) | (refine a_bin ?_ ?_ <;> intro _ <;> try (exfalso; omega)) | (refine a_st hl ?_; clear hl; intro _ hl) | fail)
  refine o_box (LH.start w (fun _ => False)) (migL g ⟨.slice sa g.stages.length sc, .slice ra g.rights.length rc, .slice ta g.terms.length tc⟩) (by rfl) rfl rfl ?_
  intro b2 w0 hb2 hl
  refine o_box hl (migL h ⟨.slice sb h.stages.length sd, .slice rb h.rights.length rd, .slice tb h.terms.length td⟩) (by rfl) rfl rfl ?_
  clear hl
  intro b3 w1 hb3 hl
  have e1 : Ext w w1 := hl.done
  have r2 : Row w1 b2 0 [str g.src, str g.dst, .slice sa g.stages.length sc, .slice ra g.rights.length rc, .slice ta g.terms.length tc] := hl.rowL (vs := migL g ⟨.slice sa g.stages.length sc, .slice ra g.rights.length rc, .slice ta g.terms.length tc⟩) 1 0 5 rfl
  have r3 : Row w1 b3 0 [str h.src, str h.dst, .slice sb h.stages.length sd, .slice rb h.rights.length rd, .slice tb h.terms.length td] := hl.rowL (vs := migL h ⟨.slice sb h.stages.length sd, .slice rb h.rights.length rd, .slice tb h.terms.length td⟩) 0 0 5 rfl
  clear hl
  replace hg := hg.ext e1
  replace hh := hh.ext e1
  replace ht := ht.ext e1
  refine o_alloc (LH.start w1 (fun _ => False)) zeroG (by kernel_rfl) rfl ?_
  intro b4 w2 hb4 hl
  repeat' (first | refine a_mov ?_ | refine a_asg ?_ | refine a_binN ?_ | refine a_notb ?_ | refine a_fa ?_ | refine a_ext ?_ | refine a_lenv ?_ | (refine o_nil (hK _ _ ?_); clear hK K) | refine wk_reg ?_ | refine wk_seq fun K hK => ?_ | (refine wk_skip (hK _ _ ?_); clear hK K) | refine wk_block ?_ | refine wk_cond_t rfl ?_ | refine wk_cond_f rfl ?_ | (refine wk_exit ?_; (repeat (refine blockK_other rfl ?_)); refine blockK_same ?_; try ((repeat ((fail_if_success (refine hK _ _ ?_)); clear hK K)); refine hK _ _ ?_; clear hK K)) | (refine a_bin ?_ ?_ <;> intro _ <;> try (exfalso; omega)) | (refine a_st hl ?_; clear hl; intro _ hl) | fail)
  refine wk_cut [] (fun _ : Unit => [(2, .pointer (some ⟨b2, 0, none⟩)), (3, .pointer (some ⟨b3, 0, none⟩)), (4, .pointer (some ⟨b4, 0, none⟩)), (40, .bool (!(migB g && migB h && decide (g.dst = h.src) && decide (maxI g.stages < (h.stages.length : Int)))))]) (fun _ w' => Ext w2 w') ?_ ?_
  · have hfg : ∀ w_, Ext w2 w_ → Calls Tryz.prog 24 #[.agg (migL g ⟨.slice sa g.stages.length sc, .slice ra g.rights.length rc, .slice ta g.terms.length tc⟩).toArray] w_ (fun e w' => ∃ v, e = .returned v ∧ v = .bool (migB g) ∧ Ext w_ w') := fun w_ he => gformed_calls (hg.ext (hl.done.trans he)) (ht.ext (hl.done.trans he))
    have hfh : ∀ w_, Ext w2 w_ → Calls Tryz.prog 24 #[.agg (migL h ⟨.slice sb h.stages.length sd, .slice rb h.rights.length rd, .slice tb h.terms.length td⟩).toArray] w_ (fun e w' => ∃ v, e = .returned v ∧ v = .bool (migB h) ∧ Ext w_ w') := fun w_ he => gformed_calls (hh.ext (hl.done.trans he)) (ht.ext (hl.done.trans he))
    replace r2 := r2.ext hl.done
    replace r3 := r3.ext hl.done
    refine wk_quiet (List.range 24) ?_
    cases n1 : migB g
    · rw [n1] at hfg
      repeat' (first | refine q_all (fun w_ hw_ => r2.ext hw_) ?_ | refine q_fn hfg ?_ | refine q_mov ?_ | refine q_fa ?_ | refine q_notb ?_ | refine q_pick_t ?_ | refine q_pick_f ?_ | refine q_skip ?_ | refine q_lenv ?_ | refine q_nil ?_ | (refine q_bin ?_ ?_ <;> intro _ <;> try (exfalso; omega)) | fail)
      intro w7 e7
      exact ⟨(), ⟨rfl, rfl, rfl, rfl, trivial⟩, rfl, e7⟩
    rw [n1] at hfg
    cases n2 : migB h
    · rw [n2] at hfh
      repeat' (first | refine q_all (fun w_ hw_ => r2.ext hw_) ?_ | refine q_all (fun w_ hw_ => r3.ext hw_) ?_ | refine q_fn hfg ?_ | refine q_fn hfh ?_ | refine q_mov ?_ | refine q_fa ?_ | refine q_notb ?_ | refine q_pick_t ?_ | refine q_pick_f ?_ | refine q_skip ?_ | refine q_lenv ?_ | refine q_nil ?_ | (refine q_bin ?_ ?_ <;> intro _ <;> try (exfalso; omega)) | fail)
      intro w7 e7
      exact ⟨(), ⟨rfl, rfl, rfl, rfl, trivial⟩, rfl, e7⟩
    rw [n2] at hfh
    have hne : g.stages ≠ [] := by
      unfold migB at n1
      simp only [Bool.and_eq_true, decide_eq_true_eq] at n1
      exact n1.1.1.1.1.1.1.2
    have hmax : ∀ w_, Ext w2 w_ → Calls Tryz.prog 25 #[.slice sa g.stages.length sc] w_ (fun e w' => ∃ v, e = .returned v ∧ v = .int .i64 (maxI g.stages) ∧ Ext w_ w') := fun w_ he => maxInt_calls (hg.1.1.ext (hl.done.trans he)) hg.1.2 hne
    by_cases h1 : g.dst = h.src
    rotate_left
    · repeat' (first | refine q_all (fun w_ hw_ => r2.ext hw_) ?_ | refine q_all (fun w_ hw_ => r3.ext hw_) ?_ | refine q_row (fun w_ hw_ => r2.ext hw_) ?_ | refine q_row (fun w_ hw_ => r3.ext hw_) ?_ | refine q_fn hfg ?_ | refine q_fn hfh ?_ | refine q_nesT (a := g.dst) (b := h.src) rfl rfl rfl rfl (fun _ => ?_) (fun h_ => absurd h_ h1) | refine q_mov ?_ | refine q_fa ?_ | refine q_notb ?_ | refine q_pick_t ?_ | refine q_pick_f ?_ | refine q_skip ?_ | refine q_lenv ?_ | refine q_nil ?_ | (refine q_bin ?_ ?_ <;> intro _ <;> try (exfalso; omega)) | fail)
      intro w7 e7
      exact ⟨(), ⟨rfl, rfl, rfl, by rw [decide_eq_false h1]; rfl, trivial⟩, rfl, e7⟩
    by_cases h2 : maxI g.stages < (h.stages.length : Int)
    all_goals repeat' (first | refine q_all (fun w_ hw_ => r2.ext hw_) ?_ | refine q_all (fun w_ hw_ => r3.ext hw_) ?_ | refine q_row (fun w_ hw_ => r2.ext hw_) ?_ | refine q_row (fun w_ hw_ => r3.ext hw_) ?_ | refine q_fn hfg ?_ | refine q_fn hfh ?_ | refine q_fn hmax ?_ | refine q_nesT (a := g.dst) (b := h.src) rfl rfl rfl rfl (fun h_ => absurd h1 h_) (fun _ => ?_) | refine q_mov ?_ | refine q_fa ?_ | refine q_notb ?_ | refine q_pick_t ?_ | refine q_pick_f ?_ | refine q_skip ?_ | refine q_lenv ?_ | refine q_nil ?_ | (refine q_bin ?_ ?_ <;> intro _ <;> try (exfalso; omega)) | fail)
    · intro w7 e7
      exact ⟨(), ⟨rfl, rfl, rfl, by rw [decide_eq_true h1, decide_eq_true h2]; rfl, trivial⟩, rfl, e7⟩
    · intro w7 e7
      exact ⟨(), ⟨rfl, rfl, rfl, by rw [decide_eq_true h1, decide_eq_false h2]; rfl, trivial⟩, rfl, e7⟩
  rintro _ t w3 e3
  refine hK _ _ ?_
  clear hK K
  replace hl := hl.ext e3
  generalize hcond : (migB g && migB h && decide (g.dst = h.src) && decide (maxI g.stages < (h.stages.length : Int))) = cond at *
  cases cond
  · repeat' (first | refine a_mov ?_ | refine a_asg ?_ | refine a_binN ?_ | refine a_notb ?_ | refine a_fa ?_ | refine a_ext ?_ | refine a_lenv ?_ | (refine o_nil (hK _ _ ?_); clear hK K) | refine wk_reg ?_ | refine wk_seq fun K hK => ?_ | (refine wk_skip (hK _ _ ?_); clear hK K) | refine wk_block ?_ | refine wk_cond_t rfl ?_ | refine wk_cond_f rfl ?_ | (refine wk_exit ?_; (repeat (refine blockK_other rfl ?_)); refine blockK_same ?_; try ((repeat ((fail_if_success (refine hK _ _ ?_)); clear hK K)); refine hK _ _ ?_; clear hK K)) | (refine a_bin ?_ ?_ <;> intro _ <;> try (exfalso; omega)) | (refine a_st hl ?_; clear hl; intro _ hl) | fail)
    refine o_build zeroG rfl (by kernel_rfl) ?_
    repeat' (first | refine a_mov ?_ | refine a_asg ?_ | refine a_binN ?_ | refine a_notb ?_ | refine a_fa ?_ | refine a_ext ?_ | refine a_lenv ?_ | (refine a_bin ?_ ?_ <;> intro _ <;> try (exfalso; omega)) | (refine a_st hl ?_; clear hl; intro _ hl) | fail)
    refine o_store hl 0 zeroG rfl rfl rfl rfl rfl (by decide) rfl ?_
    clear hl
    intro w9 hl
    replace hl : LH w1 (fun _ => False) w9 [(b4, .cells zeroG.toArray 30 (0, 0))] := hl
    repeat' (first | refine a_mov ?_ | refine a_asg ?_ | refine a_binN ?_ | refine a_notb ?_ | refine a_fa ?_ | refine a_ext ?_ | refine a_lenv ?_ | (refine o_nil (hK _ _ ?_); clear hK K) | refine wk_reg ?_ | refine wk_seq fun K hK => ?_ | (refine wk_skip (hK _ _ ?_); clear hK K) | refine wk_block ?_ | refine wk_cond_t rfl ?_ | refine wk_cond_f rfl ?_ | (refine wk_exit ?_; (repeat (refine blockK_other rfl ?_)); refine blockK_same ?_; try ((repeat ((fail_if_success (refine hK _ _ ?_)); clear hK K)); refine hK _ _ ?_; clear hK K)) | (refine a_bin ?_ ?_ <;> intro _ <;> try (exfalso; omega)) | (refine a_st hl ?_; clear hl; intro _ hl) | fail)
    refine wk_ret (retQ_res [.agg zeroG.toArray, .int .i64 1] rfl rfl ⟨by decide, ⟨⟨b4, 0, none⟩, rfl, run_loadVarN rfl rfl (hl.rowL (vs := zeroG) 0 0 5 rfl)⟩, by decide, rfl, trivial⟩ ?_)
    refine ⟨?_, e1.trans hl.done⟩
    rw [hth]
    exact ⟨1, by decide, rfl⟩
  rw [if_pos rfl] at hth
  simp only [Bool.and_eq_true, decide_eq_true_eq] at hcond
  obtain ⟨⟨⟨hmg, hmh⟩, heq⟩, hmax⟩ := hcond
  have hgk := hmg
  have hhk := hmh
  simp only [migB, Bool.and_eq_true, decide_eq_true_eq] at hgk hhk
  obtain ⟨⟨⟨⟨⟨⟨⟨⟨g1, g2⟩, g3⟩, g4⟩, g5⟩, g6⟩, g7⟩, g8⟩, g9⟩ := hgk
  obtain ⟨⟨⟨⟨⟨⟨⟨⟨k1, k2⟩, k3⟩, k4⟩, k5⟩, k6⟩, k7⟩, k8⟩, k9⟩ := hhk
  obtain ⟨⟨hgs, hgsl⟩, ⟨hgr, hgrl⟩, ⟨lg, hlg, hgt, hgli⟩, hgtl⟩ := id hg
  obtain ⟨⟨hhs, hhsl⟩, ⟨hhr, hhrl⟩, ⟨lh, hlh, hht, hhli⟩, hhtl⟩ := id hh
  simp only at hgs hgr hgt hhs hhr hht
  have hlgl : lg.length = g.terms.length := by rw [← hlg, List.length_map]
  have hlhl : lh.length = h.terms.length := by rw [← hlh, List.length_map]
  have hspos : 0 < g.stages.length := List.length_pos_iff.2 g3
  repeat' (first | refine a_mov ?_ | refine a_asg ?_ | refine a_binN ?_ | refine a_notb ?_ | refine a_fa ?_ | refine a_ext ?_ | refine a_lenv ?_ | (refine o_nil (hK _ _ ?_); clear hK K) | refine wk_reg ?_ | refine wk_seq fun K hK => ?_ | (refine wk_skip (hK _ _ ?_); clear hK K) | refine wk_block ?_ | refine wk_cond_t rfl ?_ | refine wk_cond_f rfl ?_ | (refine wk_exit ?_; (repeat (refine blockK_other rfl ?_)); refine blockK_same ?_; try ((repeat ((fail_if_success (refine hK _ _ ?_)); clear hK K)); refine hK _ _ ?_; clear hK K)) | (refine a_bin ?_ ?_ <;> intro _ <;> try (exfalso; omega)) | (refine a_st hl ?_; clear hl; intro _ hl) | fail)
  refine wk_cut [] (fun b6 : Nat => [(2, .pointer (some ⟨b2, 0, none⟩)), (3, .pointer (some ⟨b3, 0, none⟩)), (4, .pointer (some ⟨b4, 0, none⟩)), (6, .pointer (some ⟨b6, 0, none⟩))])
    (fun b6 w' => ∃ bs cap junk tv acc, LH w1 (fun _ => False) w' ([(b6, .cells (migL (thenM g h) ⟨.slice (some ⟨bs, 0, none⟩) g.stages.length cap, .slice none 0 0, tv⟩).toArray 30 (0, 0)), (bs, .cells (g.stages.flatMap intL ++ junk).toArray 3 (0, 0)), (b4, .cells zeroG.toArray 30 (0, 0))] ++ acc) ∧ Acc tv 5 56 (lg ++ lh).length ((lg ++ lh).flatMap limL) acc ∧ g.stages.length ≤ cap ∧ cap ≤ maxLen ∧ (g.stages.flatMap intL ++ junk).length = cap * 1) ?_ ?_
  · refine wk_last (List.dropLast_concat_getLast (by simp)).symm (by kernel_rfl) ?_
    refine any_grow [([0, 1, 2, 3, 4, 5, 7, 8, 9, 10], [6, 11, 12, 13, 14]), ([], [])] ?_ (fun _ _ _ _ h => by first | exact h | (simp only [BlockK, NoGoto, RetQ] at h)) (by kernel_rfl)
    refine g_tab (RTh w3 g h (.slice ta g.terms.length tc) (.slice tb h.terms.length td) (lg ++ lh)) (fun i => RTh.stb _ _ _ _ _ _ i) ?_
    replace r2 := r2.ext hl.done
    replace r3 := r3.ext hl.done
    have e3' : Ext w1 w3 := hl.done
    repeat' (first | refine x_row (fun w_ hw_ => r2.ext hw_) ?_ | refine x_row (fun w_ hw_ => r3.ext hw_) ?_ | refine x_asg ?_ | refine x_fa ?_ | fail)
    refine x_nil fun vs => ⟨?_, ?_⟩
    · intro i hi
      simp only [List.mem_cons, List.not_mem_nil, or_false] at hi
      rcases hi with rfl | rfl | rfl | rfl | rfl
      · refine p_fn (args := #[.slice sa g.stages.length sc]) (fun w' hw' _ => ?_)
        refine Calls.mono (intClone_calls (f := intL) intL_len ?_ (hgs.ext (e3'.trans hw')) (by omega)) ?_
        · rw [List.all_eq_true]
          intro v hv
          obtain ⟨z, -, hv⟩ := List.mem_flatMap.1 hv
          simp only [intL, List.mem_singleton] at hv
          rw [hv]
          rfl
        · rintro e w'' ⟨v, h1, acc, h2, h3⟩
          exact ⟨v, h1, ⟨acc, h3, h2.toOwn hw'⟩, h2.done⟩
      · refine p_walk rfl rfl rfl fun w' hw' _ => ?_
        refine o_buildSlice (LH.start w' (fun _ => False)) [.slice ta g.terms.length tc, .slice tb h.terms.length td] rfl rfl (by kernel_rfl) ?_
        intro b w'' hb hl
        exact o_nil ⟨_, rfl, hl.done, b, rfl, hl.rowL (vs := [.slice ta g.terms.length tc, .slice tb h.terms.length td]) 0 0 2 rfl⟩
      · refine p_fn (args := #[vs 11]) (fun w' hw' hR => ?_)
        obtain ⟨b, hv, hrb⟩ : RB (.slice ta g.terms.length tc) (.slice tb h.terms.length td) (vs 11) w' := hR 11 (by simp) (by kernel_rfl)
        rw [hv]
        refine Calls.mono (concat_calls hrb (hgt.ext (e3'.trans hw')) (hht.ext (e3'.trans hw')) (fun p hp => (hgli p hp).ext (e3'.trans hw')) (fun p hp => (hhli p hp).ext (e3'.trans hw')) (by omega) (by omega)) ?_
        rintro e w'' ⟨v, h1, acc, h2, h3⟩
        exact ⟨v, h1, ⟨acc, h3, h2.toOwn hw'⟩, h2.done⟩
      · refine p_walk rfl rfl rfl fun w' hw' hR => ?_
        have hc : RC w3 g (vs 6) w' := hR 6 (by simp) (by kernel_rfl)
        have ht2 : RT w3 (lg ++ lh) (vs 12) w' := hR 12 (by simp) (by kernel_rfl)
        obtain ⟨ca, cc, hcv⟩ := hc.choose_spec.1.shape
        obtain ⟨da, dc, hdv⟩ := ht2.choose_spec.1.shape
        refine o_build (migL (thenM g h) ⟨vs 6, .slice none 0 0, vs 12⟩) rfl (by show buildC _ _ [(0, str g.src), (1, str h.dst), (2, vs 6), (4, vs 12)] = _; rw [hcv, hdv]; simp only [migL, str_eq]; kernel_rfl) ?_
        exact o_nil ⟨_, rfl, .refl _ _, vs 6, vs 12, rfl, hc, ht2⟩
      · refine p_walk rfl rfl rfl fun w' hw' _ => ?_
        refine o_alloc (LH.start w' (fun _ => False)) zeroG (by kernel_rfl) rfl ?_
        intro b w'' hb hl
        exact o_nil ⟨_, rfl, hl.done, b, rfl, Nat.le_trans hw'.size hb, hl.get 0 rfl⟩
    · intro w5 hw5 hR
      obtain ⟨sv, tv, h13, ⟨accS, hS, oS⟩, accT, hT, oT⟩ : RM w3 g h (lg ++ lh) (vs 13) w5 := hR 13 (by simp)
      have hA : RA w3 (vs 14) w5 := hR 14 (by simp)
      refine g_end (x_nil fun w6 hw6 => ?_)
      obtain ⟨b6, h14, hb6, hc6⟩ := RA.stb _ _ _ _ hA hw6
      replace oS := oS.ext hw6
      replace oT := oT.ext hw6
      have hl6 := hl.ext (hw5.trans hw6)
      have hlt4 := hl.lt List.mem_cons_self
      simp only at hlt4
      obtain ⟨bs, cap, junk, rfl, rfl, c1, c2, c3⟩ := hS.one hspos
      replace hl6 := hl6.addB hc6 (Nat.le_trans e3'.size hb6) (fun p hp => by rw [List.mem_singleton.1 hp]; simp only; omega)
      have hsb := oS _ List.mem_cons_self
      replace hl6 := hl6.join1 (Nat.le_trans e3'.size hsb.1) hsb.2 (fun p hp => by simp only [List.mem_cons, List.not_mem_nil, or_false] at hp; rcases hp with rfl | rfl <;> (intro h_; exact absurd (Obj.cells.inj h_).2.1 (by decide)))
      replace hl6 := (hl6.joinAcc hT (oT.base e3') (fun p hp c fz => by simp only [List.mem_cons, List.not_mem_nil, or_false] at hp; rcases hp with rfl | rfl | rfl <;> (intro h_; exact absurd (Obj.cells.inj h_).2.1 (by decide)))).perm List.perm_append_comm
      refine o_store hl6 1 (migL (thenM g h) ⟨.slice (some ⟨bs, 0, none⟩) g.stages.length cap, .slice none 0 0, tv⟩) rfl h14 rfl (congrArg Value.cells h13) rfl (by rw [migL_len]; decide) ?_ ?_
      · obtain ⟨da, dc, rfl⟩ := hT.shape
        simp only [migL, List.all_cons, str_eq]
        rfl
      clear hl6
      intro w7 hl7
      refine o_nil ⟨b6, ⟨rfl, rfl, rfl, h14, trivial⟩, rfl, bs, cap, junk, tv, accT, hl7.perm (List.Perm.swap _ _ _), hT, c1, c2, c3⟩
  rintro b6 t w5 ⟨bs, cap, junk, tv, accT, hl, hT, c1, c2, c3⟩
  refine hK _ _ ?_
  clear hK K e3
  have hb4lt : Ext w1 w5 := hl.done
  obtain ⟨sb', sd', hseq, hhp⟩ := sl_each intL_len (by decide) hhs
  cases hseq
  obtain ⟨sa', sc', hseq, hgp⟩ := sl_each intL_len (by decide) hgs
  cases hseq
  have r25 := r2.ext hl.done
  repeat' (first | refine a_row r25 ?_ | refine a_mov ?_ | refine a_asg ?_ | refine a_binN ?_ | refine a_notb ?_ | refine a_fa ?_ | refine a_ext ?_ | refine a_lenv ?_ | (refine o_nil (hK _ _ ?_); clear hK K) | refine wk_reg ?_ | refine wk_seq fun K hK => ?_ | (refine wk_skip (hK _ _ ?_); clear hK K) | refine wk_block ?_ | refine wk_cond_t rfl ?_ | refine wk_cond_f rfl ?_ | (refine wk_exit ?_; (repeat (refine blockK_other rfl ?_)); refine blockK_same ?_; try ((repeat ((fail_if_success (refine hK _ _ ?_)); clear hK K)); refine hK _ _ ?_; clear hK K)) | (refine a_bin ?_ ?_ <;> intro _ <;> try (exfalso; omega)) | (refine a_st hl ?_; clear hl; intro _ hl) | fail)
  refine wk_loopH [] rfl (fun i : Nat => [(2, .pointer (some ⟨b2, 0, none⟩)), (3, .pointer (some ⟨b3, 0, none⟩)), (4, .pointer (some ⟨b4, 0, none⟩)), (6, .pointer (some ⟨b6, 0, none⟩)), (57, .slice sa g.stages.length sc), (58, .int .i64 (g.stages.length : Int)), (59, .int .i64 (i : Int))])
    (fun i w' => i ≤ g.stages.length ∧ LH w1 (fun _ => False) w' ([(b6, .cells (migL (thenM g h) ⟨.slice (some ⟨bs, 0, none⟩) g.stages.length cap, .slice none 0 0, tv⟩).toArray 30 (0, 0)), (bs, .cells ((stg g h i).flatMap intL ++ junk).toArray 3 (0, 0)), (b4, .cells zeroG.toArray 30 (0, 0))] ++ accT)) (fun i => g.stages.length - i) 0 ⟨rfl, rfl, rfl, rfl, rfl, rfl, rfl, trivial⟩ ⟨Nat.zero_le _, by rw [stg_zero]; exact hl⟩ ?_
  clear hl r25 hb4lt
  rintro i t1 w6 ⟨hi, hl⟩
  by_cases hlt : i < g.stages.length
  · obtain ⟨b, o, hpp, hrr⟩ := hgp i hlt
    have hrr := hrr w6 hl.done
    have hss := stg_set g h hlt
    have hsm := stg_same g h hlt
    have hsl := stg_len g h i hi
    have hsmax := (maxI_lt g3).1 hmax _ (List.getElem_mem hlt)
    have hsd : updS h g.stages[i] = if 0 ≤ g.stages[i] then h.stages.getD g.stages[i].toNat (-1) else g.stages[i] := rfl
    repeat' (first | refine a_mov ?_ | refine a_asg ?_ | refine a_binN ?_ | refine a_notb ?_ | refine a_fa ?_ | refine a_ext ?_ | refine a_lenv ?_ | (refine o_nil (hK _ _ ?_); clear hK K) | refine wk_reg ?_ | refine wk_seq fun K hK => ?_ | (refine wk_skip (hK _ _ ?_); clear hK K) | refine wk_block ?_ | refine wk_cond_t rfl ?_ | refine wk_cond_f rfl ?_ | (refine wk_exit ?_; (repeat (refine blockK_other rfl ?_)); refine blockK_same ?_; try ((repeat ((fail_if_success (refine hK _ _ ?_)); clear hK K)); refine hK _ _ ?_; clear hK K)) | (refine a_bin ?_ ?_ <;> intro _ <;> try (exfalso; omega)) | (refine a_st hl ?_; clear hl; intro _ hl) | refine a_idx (c := 1) i hpp ?_ | refine a_row hrr ?_ (hj := ⟨0, rfl, rfl⟩) | fail)
    · rename_i hge
      have h0 : 0 ≤ g.stages[i] := by omega
      obtain ⟨s, hs⟩ := Int.eq_ofNat_of_zero_le h0
      rw [if_pos h0] at hsd
      generalize g.stages[i] = z at *
      subst hs
      have hslt : s < h.stages.length := by omega
      obtain ⟨bq, oq, hpq, hrq⟩ := hhp s hslt
      have hgd : updS h (s : Int) = h.stages[s] := by
        rw [hsd, Int.toNat_natCast, List.getD_eq_getElem?_getD, List.getElem?_eq_getElem hslt]
        rfl
      replace hrq := hrq w6 hl.done
      have r36 := r3.ext hl.done
      have r66 : Row w6 b6 0 [str g.src, str h.dst, .slice (some ⟨bs, 0, none⟩) g.stages.length cap, .slice none 0 0, tv] := hl.rowL (vs := migL (thenM g h) ⟨.slice (some ⟨bs, 0, none⟩) g.stages.length cap, .slice none 0 0, tv⟩) 0 0 5 rfl
      rw [hgd] at hss
      refine wk_draw (List.range 9) [] [9] (fun w' => Ext w6 w') (fun _ => True) rfl (by kernel_rfl) (fun _ _ _ _ h => by first | exact h | (simp only [BlockK, NoGoto, RetQ] at h)) (fun _ h => Upd.of_heap h) (fun _ _ => trivial) ?_
      repeat' (first | refine q_row (fun w_ hw_ => r36.ext hw_) ?_ | refine q_row (fun w_ hw_ => r66.ext hw_) ?_ | refine q_idx (c := 1) s hpq ?_ | refine q_idx (c := 1) i rfl ?_ | refine q_row (fun w_ hw_ => hrq.ext hw_) ?_ (hj := ⟨0, rfl, rfl⟩) | refine q_mov ?_ | refine q_fa ?_ | refine q_notb ?_ | refine q_pick_t ?_ | refine q_pick_f ?_ | refine q_skip ?_ | refine q_lenv ?_ | refine q_nil ?_ | (refine q_bin ?_ ?_ <;> intro _ <;> try (exfalso; omega)) | fail)
      intro w7 e7
      replace hl := hl.ext e7
      refine ops_tail rfl rfl ?_
      refine o_store hl 1 [.int .i64 h.stages[s]] rfl rfl rfl rfl rfl ?_ rfl ?_
      · have := flat_length intL_len (stg g h i)
        rw [List.length_append, this, hsl]
        simp only [List.length_cons, List.length_nil]
        omega
      clear hl
      intro w8 hl
      have hput := putL_flat intL_len h.stages[s] junk (stg g h i) i (by omega)
      rw [hss] at hput
      have hl : LH w1 (fun _ => False) w8 ([(b6, .cells (migL (thenM g h) ⟨.slice (some ⟨bs, 0, none⟩) g.stages.length cap, .slice none 0 0, tv⟩).toArray 30 (0, 0)), (bs, .cells (putL ((stg g h i).flatMap intL ++ junk) (0 + i * 1) (intL h.stages[s])).toArray 3 (0, 0)), (b4, .cells zeroG.toArray 30 (0, 0))] ++ accT) := hl
      rw [Nat.zero_add, hput] at hl
      refine o_nil ⟨trivial, ?_⟩
      refine ops_nil (hK _ _ ?_)
      clear hK K
      repeat' (first | refine a_mov ?_ | refine a_asg ?_ | refine a_binN ?_ | refine a_notb ?_ | refine a_fa ?_ | refine a_ext ?_ | refine a_lenv ?_ | (refine o_nil (hK _ _ ?_); clear hK K) | refine wk_reg ?_ | refine wk_seq fun K hK => ?_ | (refine wk_skip (hK _ _ ?_); clear hK K) | refine wk_block ?_ | refine wk_cond_t rfl ?_ | refine wk_cond_f rfl ?_ | (refine wk_exit ?_; (repeat (refine blockK_other rfl ?_)); refine blockK_same ?_; try ((repeat ((fail_if_success (refine hK _ _ ?_)); clear hK K)); refine hK _ _ ?_; clear hK K)) | (refine a_bin ?_ ?_ <;> intro _ <;> try (exfalso; omega)) | (refine a_st hl ?_; clear hl; intro _ hl) | fail)
      exact o_nil ⟨i + 1, ⟨rfl, rfl, rfl, rfl, rfl, rfl, rfl, trivial⟩, rfl, ⟨hlt, hl⟩, by omega⟩
    · rename_i hge
      rw [← hsm (by omega)] at hl
      exact o_nil ⟨i + 1, ⟨rfl, rfl, rfl, rfl, rfl, rfl, rfl, trivial⟩, rfl, ⟨hlt, hl⟩, by omega⟩
  obtain rfl : i = g.stages.length := by omega
  rw [stg_end] at hl
  repeat' (first | refine a_mov ?_ | refine a_asg ?_ | refine a_binN ?_ | refine a_notb ?_ | refine a_fa ?_ | refine a_ext ?_ | refine a_lenv ?_ | (refine o_nil (hK _ _ ?_); clear hK K) | refine wk_reg ?_ | refine wk_seq fun K hK => ?_ | (refine wk_skip (hK _ _ ?_); clear hK K) | refine wk_block ?_ | refine wk_cond_t rfl ?_ | refine wk_cond_f rfl ?_ | (refine wk_exit ?_; (repeat (refine blockK_other rfl ?_)); refine blockK_same ?_; try ((repeat ((fail_if_success (refine hK _ _ ?_)); clear hK K)); refine hK _ _ ?_; clear hK K)) | (refine a_bin ?_ ?_ <;> intro _ <;> try (exfalso; omega)) | (refine a_st hl ?_; clear hl; intro _ hl) | fail)
  have e6 : Ext w1 w6 := hl.done
  refine wk_grow [([0, 2], [1, 3]), ([4, 5], [])] ?_ (fun _ _ _ _ h => by first | exact h | (simp only [BlockK, NoGoto, RetQ] at h)) (by kernel_rfl)
  refine g_two (RN g.rights) (RN h.rights) (RN.stb _) (RN.stb _) ?_
  repeat' (first | refine x_all (fun w_ hw_ => (r2.ext e6).ext hw_) ?_ | refine x_all (fun w_ hw_ => (r3.ext e6).ext hw_) ?_ | refine x_asg ?_ | refine x_fa ?_ | fail)
  refine x_nil ⟨fun v1 v2 => p_fn (args := #[.agg (migL g ⟨.slice sa g.stages.length sc, .slice ra g.rights.length rc, .slice ta g.terms.length tc⟩).toArray]) (fun w' hw' _ => named_RN (hg.ext (e6.trans hw'))), fun v1 v2 => p_fn (args := #[.agg (migL h ⟨.slice sb h.stages.length sd, .slice rb h.rights.length rd, .slice tb h.terms.length td⟩).toArray]) (fun w' hw' _ => named_RN (hh.ext (e6.trans hw'))), ?_⟩
  rintro _ _ w7 hw7 ⟨m1, es1, c1', mm1, rfl, hm1, hn1, hb1⟩ ⟨m2, es2, c2', mm2, rfl, hm2, hn2, hb2⟩
  refine g_end ?_
  repeat' (first | refine x_asg ?_ | refine x_fa ?_ | fail)
  refine x_nil fun w8 hw8 => ?_
  refine hK _ _ ?_
  clear hK K
  have hlo := hl.ext (hw7.trans hw8)
  replace hb1 := (hw8.same m1 (Array.getElem?_eq_some_iff.1 hb1).1 (fun h => h)).trans hb1
  replace hb2 := (hw8.same m2 (Array.getElem?_eq_some_iff.1 hb2).1 (fun h => h)).trans hb2
  clear hl e6 hw7 hw8
  have hcel : ∀ p ∈ [(b6, Obj.cells (migL (thenM g h) ⟨.slice (some ⟨bs, 0, none⟩) g.stages.length cap, .slice none 0 0, tv⟩).toArray 30 (0, 0)), (bs, Obj.cells ((thenM g h).stages.flatMap intL ++ junk).toArray 3 (0, 0)), (b4, Obj.cells zeroG.toArray 30 (0, 0))] ++ accT, ∃ c T fz, p.2 = Obj.cells c T fz := fun p hp => by
    rcases List.mem_append.1 hp with hp | hp
    · simp only [List.mem_cons, List.not_mem_nil, or_false] at hp
      rcases hp with rfl | rfl | rfl <;> exact ⟨_, _, _, rfl⟩
    · exact hT.cells p hp
  obtain ⟨M, hMb, hrb, hbk⟩ := hlo.rb_ex
  have hM1 : ¬ M m1 := fun h => hlo.not_map hcel hb1 (hMb _ h)
  have hM2 : ¬ M m2 := fun h => hlo.not_map hcel hb2 (hMb _ h)
  clear hMb hcel
  have hk1 : ∀ {w' : World} {l : List (Nat × Obj)}, LH w8 M w' l → w'.heap[m1]? = some (.map es1 c1') := fun h => (h.upd.same m1 (Array.getElem?_eq_some_iff.1 hb1).1 hM1).trans hb1
  have hk2 : ∀ {w' : World} {l : List (Nat × Obj)}, LH w8 M w' l → w'.heap[m2]? = some (.map es2 c2') := fun h => (h.upd.same m2 (Array.getElem?_eq_some_iff.1 hb2).1 hM2).trans hb2
  clear hlo hM1 hM2 hb1 hb2
  have r28 := r2.ext (hbk hrb).done
  repeat' (first | refine a_row r28 ?_ | refine a_mov ?_ | refine a_asg ?_ | refine a_binN ?_ | refine a_notb ?_ | refine a_fa ?_ | refine a_ext ?_ | refine a_lenv ?_ | (refine o_nil (hK _ _ ?_); clear hK K) | refine wk_reg ?_ | refine wk_seq fun K hK => ?_ | (refine wk_skip (hK _ _ ?_); clear hK K) | refine wk_block ?_ | refine wk_cond_t rfl ?_ | refine wk_cond_f rfl ?_ | (refine wk_exit ?_; (repeat (refine blockK_other rfl ?_)); refine blockK_same ?_; try ((repeat ((fail_if_success (refine hK _ _ ?_)); clear hK K)); refine hK _ _ ?_; clear hK K)) | (refine a_bin ?_ ?_ <;> intro _ <;> try (exfalso; omega)) | (refine a_st hl ?_; clear hl; intro _ hl) | fail)
  obtain ⟨ra', rc', hreq, hgrp⟩ := sl_each pairL_len (by decide) hgr
  cases hreq
  refine wk_loopH [] rfl (fun i : Nat => [(2, .pointer (some ⟨b2, 0, none⟩)), (3, .pointer (some ⟨b3, 0, none⟩)), (4, .pointer (some ⟨b4, 0, none⟩)), (6, .pointer (some ⟨b6, 0, none⟩)), (9, .map (some m1)), (10, .map (some m2)), (81, .slice ra g.rights.length rc), (82, .int .i64 (g.rights.length : Int)), (83, .int .i64 (i : Int))])
    (fun i w' => i ≤ g.rights.length ∧ ∃ rv accR, LH w8 M w' ([(b6, Obj.cells (migL (thenM g h) ⟨.slice (some ⟨bs, 0, none⟩) g.stages.length cap, rv, tv⟩).toArray 30 (0, 0)), (bs, Obj.cells ((thenM g h).stages.flatMap intL ++ junk).toArray 3 (0, 0)), (b4, Obj.cells zeroG.toArray 30 (0, 0))] ++ accT ++ accR) ∧ Acc rv 2 57 i (((newR g h).take i).flatMap pairL) accR) (fun i => g.rights.length - i) 0 ⟨rfl, rfl, rfl, rfl, rfl, rfl, rfl, rfl, rfl, trivial⟩ ⟨Nat.zero_le _, .slice none 0 0, [], by rw [List.append_nil]; exact hrb, Acc.nil _ _⟩ ?_
  clear hrb r28
  have hnr : (newR g h).length = g.rights.length := by unfold newR; rw [List.length_map]
  rintro i t1 w9 ⟨hi, rv, accR, hl, hR⟩
  by_cases hlt : i < g.rights.length
  · obtain ⟨b, o, hpp, hrr⟩ := hgrp i hlt
    have hrr := hrr w9 (hbk hl).done
    have htk : (newR g h).take (i + 1) = (newR g h).take i ++ [⟨g.rights[i].x, renB h.rights g.rights[i].y⟩] := by
      rw [List.take_succ_eq_append_getElem (by omega)]
      unfold newR
      simp
    generalize g.rights[i] = q at *
    obtain ⟨rva, rvc, rfl⟩ := hR.shape
    repeat' (first | refine a_mov ?_ | refine a_asg ?_ | refine a_binN ?_ | refine a_notb ?_ | refine a_fa ?_ | refine a_ext ?_ | refine a_lenv ?_ | (refine o_nil (hK _ _ ?_); clear hK K) | refine wk_reg ?_ | refine wk_seq fun K hK => ?_ | (refine wk_skip (hK _ _ ?_); clear hK K) | refine wk_block ?_ | refine wk_cond_t rfl ?_ | refine wk_cond_f rfl ?_ | (refine wk_exit ?_; (repeat (refine blockK_other rfl ?_)); refine blockK_same ?_; try ((repeat ((fail_if_success (refine hK _ _ ?_)); clear hK K)); refine hK _ _ ?_; clear hK K)) | (refine a_bin ?_ ?_ <;> intro _ <;> try (exfalso; omega)) | (refine a_st hl ?_; clear hl; intro _ hl) | refine a_idx (c := 2) i hpp ?_ | refine a_all hrr ?_ | fail)
    have hl : LH w8 M w9 (([(b6, Obj.cells (migL (thenM g h) ⟨.slice (some ⟨bs, 0, none⟩) g.stages.length cap, .slice rva i rvc, tv⟩).toArray 30 (0, 0)), (bs, Obj.cells ((thenM g h).stages.flatMap intL ++ junk).toArray 3 (0, 0)), (b4, Obj.cells zeroG.toArray 30 (0, 0))] ++ accT) ++ accR) := hl
    refine o_alloc hl [.string ⟨#[]⟩, .string ⟨#[]⟩] rfl rfl ?_
    clear hl
    intro b12 w10 hb12 hl
    refine o_store hl 0 (pairL q) rfl rfl rfl (by rfl) rfl (by simp [pairL]) (pair_one q) ?_
    clear hl
    intro w11 hl
    have hl : LH w8 M w11 (((b12, .cells (pairL q).toArray 57 (0, 0)) :: [(b6, Obj.cells (migL (thenM g h) ⟨.slice (some ⟨bs, 0, none⟩) g.stages.length cap, .slice rva i rvc, tv⟩).toArray 30 (0, 0)), (bs, Obj.cells ((thenM g h).stages.flatMap intL ++ junk).toArray 3 (0, 0)), (b4, Obj.cells zeroG.toArray 30 (0, 0))] ++ accT) ++ accR) := hl
    have hr12 : Row w11 b12 0 [str q.x, str q.y] := hl.rowL (vs := pairL q) 0 0 2 rfl
    have hr6 : Row w11 b6 0 [str g.src, str h.dst, .slice (some ⟨bs, 0, none⟩) g.stages.length cap, .slice rva i rvc, tv] := hl.rowL (vs := migL (thenM g h) ⟨.slice (some ⟨bs, 0, none⟩) g.stages.length cap, .slice rva i rvc, tv⟩) 1 0 5 rfl
    have hren : ∀ w_, Ext w11 w_ → Calls Tryz.prog 21 #[.map (some m2), str q.y] w_ (fun e w' => ∃ v, e = .returned v ∧ v = str (renB h.rights q.y) ∧ Ext w_ w') := fun w_ he => renamed_calls hm2 hn2 ((he.same m2 (Array.getElem?_eq_some_iff.1 (hk2 hl)).1 (fun h => h)).trans (hk2 hl)) q.y
    refine o_nil (hK _ _ ?_)
    clear hK K
    refine wk_drawP [0, 1, 2, 3, 4, 5, 6, 7, 8, 11] [1] [9, 10, 12] [] [] (fun w' => Ext w11 w') (fun w' => Row w' b6 0 [str g.src, str h.dst, .slice (some ⟨bs, 0, none⟩) g.stages.length cap, .slice rva i rvc, tv]) rfl (by kernel_rfl) (fun _ _ _ _ h => by first | exact h | (simp only [BlockK, NoGoto, RetQ] at h)) (fun _ h => Upd.of_heap h) (fun w' h => hr6.ext h) ?_
    repeat' (first | refine q_mov ?_ | refine q_fa ?_ | refine q_notb ?_ | refine q_pick_t ?_ | refine q_pick_f ?_ | refine q_skip ?_ | refine q_lenv ?_ | refine q_nil ?_ | (refine q_bin ?_ ?_ <;> intro _ <;> try (exfalso; omega)) | refine q_late rfl rfl rfl rfl (fun w' hw' => r_load rfl rfl (hw' 3 _ rfl)) ?_ | refine q_row (fun w_ hw_ => hr12.ext hw_) ?_ | refine q_pur rfl rfl rfl (fun _ => r_indexArr (len := 2) (k := 1) 0 (by omega) rfl rfl rfl rfl rfl) ?_ | refine q_pur rfl rfl rfl (fun _ => r_indexArr (len := 2) (k := 1) 1 (by omega) rfl rfl rfl rfl rfl) ?_ | refine q_fn hren ?_ | refine q_build (pairL ⟨q.x, renB h.rights q.y⟩) rfl rfl (by simp only [pairL, str_eq]; kernel_rfl) ?_ | fail)
    intro w12 e12
    replace hl := hl.ext e12
    refine opsD_tail rfl rfl ?_
    refine o_buildSlice hl (pairL ⟨q.x, renB h.rights q.y⟩) rfl rfl (by simp only [pairL, str_eq]; kernel_rfl) ?_
    clear hl
    intro b13 w13 hb13 hl
    refine o_nil ⟨.inl (hl.rowL (vs := migL (thenM g h) ⟨.slice (some ⟨bs, 0, none⟩) g.stages.length cap, .slice rva i rvc, tv⟩) 2 0 5 rfl), ?_⟩
    have hl : LH w8 M w13 (((b13, .cells (pairL ⟨q.x, renB h.rights q.y⟩).toArray 57 (0, 0)) :: (b12, .cells (pairL q).toArray 57 (0, 0)) :: [(b6, Obj.cells (migL (thenM g h) ⟨.slice (some ⟨bs, 0, none⟩) g.stages.length cap, .slice rva i rvc, tv⟩).toArray 30 (0, 0)), (bs, Obj.cells ((thenM g h).stages.flatMap intL ++ junk).toArray 3 (0, 0)), (b4, Obj.cells zeroG.toArray 30 (0, 0))] ++ accT) ++ accR) := hl
    refine opsD_tail rfl rfl ?_
    refine o_append (k := 2) (bytes := 32) (m := i) (q := 1) (us := pairL ⟨q.x, renB h.rights q.y⟩) hl hR (hl.rowL (vs := pairL ⟨q.x, renB h.rights q.y⟩) 0 0 2 rfl) rfl (pair_one _) (by decide) (by omega) (by omega) rfl rfl (by kernel_rfl) rfl rfl ?_
    clear hl hR
    intro v2 w14 acc2 hl hR
    obtain ⟨x2, y2, rfl⟩ := hR.shape
    refine o_nil ⟨.inr (by kernel_rfl), ?_⟩
    refine opsD_tail rfl rfl ?_
    refine o_store hl 2 [.slice x2 (i + 1) y2] rfl rfl rfl rfl rfl (by simp [migL]) rfl ?_
    clear hl
    intro w15 hl
    refine o_nil ⟨.inr (by kernel_rfl), ?_⟩
    refine opsD_nil ?_
    unfold PostQ
    refine q_nil ?_
    have hl : LH w8 M w15 (((b13, .cells (pairL ⟨q.x, renB h.rights q.y⟩).toArray 57 (0, 0)) :: (b12, .cells (pairL q).toArray 57 (0, 0)) :: [(b6, Obj.cells (migL (thenM g h) ⟨.slice (some ⟨bs, 0, none⟩) g.stages.length cap, .slice x2 (i + 1) y2, tv⟩).toArray 30 (0, 0)), (bs, Obj.cells ((thenM g h).stages.flatMap intL ++ junk).toArray 3 (0, 0)), (b4, Obj.cells zeroG.toArray 30 (0, 0))] ++ accT) ++ acc2) := hl
    refine hK _ _ ?_
    clear hK K
    repeat' (first | refine a_mov ?_ | refine a_asg ?_ | refine a_binN ?_ | refine a_notb ?_ | refine a_fa ?_ | refine a_ext ?_ | refine a_lenv ?_ | (refine o_nil (hK _ _ ?_); clear hK K) | refine wk_reg ?_ | refine wk_seq fun K hK => ?_ | (refine wk_skip (hK _ _ ?_); clear hK K) | refine wk_block ?_ | refine wk_cond_t rfl ?_ | refine wk_cond_f rfl ?_ | (refine wk_exit ?_; (repeat (refine blockK_other rfl ?_)); refine blockK_same ?_; try ((repeat ((fail_if_success (refine hK _ _ ?_)); clear hK K)); refine hK _ _ ?_; clear hK K)) | (refine a_bin ?_ ?_ <;> intro _ <;> try (exfalso; omega)) | (refine a_st hl ?_; clear hl; intro _ hl) | fail)
    refine o_nil ⟨i + 1, ⟨rfl, rfl, rfl, rfl, rfl, rfl, rfl, rfl, rfl, trivial⟩, rfl, ⟨hlt, _, acc2, hl.sub ((List.sublist_cons_self _ _).trans (List.sublist_cons_self _ _)), ?_⟩, by omega⟩
    rw [htk, List.flatMap_append]
    exact hR
  obtain rfl : i = g.rights.length := by omega
  rw [List.take_of_length_le (by omega)] at hR
  have hky := key_str (P := Tryz.prog) (kt := 9) rfl
  have r39 := r3.ext (hbk hl).done
  repeat' (first | refine a_row r39 ?_ | refine a_mov ?_ | refine a_asg ?_ | refine a_binN ?_ | refine a_notb ?_ | refine a_fa ?_ | refine a_ext ?_ | refine a_lenv ?_ | (refine o_nil (hK _ _ ?_); clear hK K) | refine wk_reg ?_ | refine wk_seq fun K hK => ?_ | (refine wk_skip (hK _ _ ?_); clear hK K) | refine wk_block ?_ | refine wk_cond_t rfl ?_ | refine wk_cond_f rfl ?_ | (refine wk_exit ?_; (repeat (refine blockK_other rfl ?_)); refine blockK_same ?_; try ((repeat ((fail_if_success (refine hK _ _ ?_)); clear hK K)); refine hK _ _ ?_; clear hK K)) | (refine a_bin ?_ ?_ <;> intro _ <;> try (exfalso; omega)) | (refine a_st hl ?_; clear hl; intro _ hl) | fail)
  obtain ⟨rb', rd', hreq, hhrp⟩ := sl_each pairL_len (by decide) hhr
  cases hreq
  refine wk_loopH [] rfl (fun i : Nat => [(2, .pointer (some ⟨b2, 0, none⟩)), (3, .pointer (some ⟨b3, 0, none⟩)), (4, .pointer (some ⟨b4, 0, none⟩)), (6, .pointer (some ⟨b6, 0, none⟩)), (9, .map (some m1)), (101, .slice rb h.rights.length rd), (102, .int .i64 (h.rights.length : Int)), (103, .int .i64 (i : Int))])
    (fun i w' => i ≤ h.rights.length ∧ ∃ rv accR, LH w8 M w' ([(b6, Obj.cells (migL (thenM g h) ⟨.slice (some ⟨bs, 0, none⟩) g.stages.length cap, rv, tv⟩).toArray 30 (0, 0)), (bs, Obj.cells ((thenM g h).stages.flatMap intL ++ junk).toArray 3 (0, 0)), (b4, Obj.cells zeroG.toArray 30 (0, 0))] ++ accT ++ accR) ∧ Acc rv 2 57 (jnR g h i).length ((jnR g h i).flatMap pairL) accR) (fun i => h.rights.length - i) 0 ⟨rfl, rfl, rfl, rfl, rfl, rfl, rfl, rfl, trivial⟩ ⟨Nat.zero_le _, rv, accR, hl, by rw [jnR_zero, hnr]; exact hR⟩ ?_
  clear hl hR r39 rv accR
  rintro i t2 w9 ⟨hi, rv, accR, hl, hR⟩
  by_cases hlt : i < h.rights.length
  · obtain ⟨b, o, hpp, hrr⟩ := hhrp i hlt
    have hrr := hrr w9 (hbk hl).done
    have hjs := jnR_succ g h hlt
    have hjl := jnR_len g h i
    generalize h.rights[i] = q at *
    obtain ⟨rva, rvc, rfl⟩ := hR.shape
    repeat' (first | refine a_mov ?_ | refine a_asg ?_ | refine a_binN ?_ | refine a_notb ?_ | refine a_fa ?_ | refine a_ext ?_ | refine a_lenv ?_ | (refine o_nil (hK _ _ ?_); clear hK K) | refine wk_reg ?_ | refine wk_seq fun K hK => ?_ | (refine wk_skip (hK _ _ ?_); clear hK K) | refine wk_block ?_ | refine wk_cond_t rfl ?_ | refine wk_cond_f rfl ?_ | (refine wk_exit ?_; (repeat (refine blockK_other rfl ?_)); refine blockK_same ?_; try ((repeat ((fail_if_success (refine hK _ _ ?_)); clear hK K)); refine hK _ _ ?_; clear hK K)) | (refine a_bin ?_ ?_ <;> intro _ <;> try (exfalso; omega)) | (refine a_st hl ?_; clear hl; intro _ hl) | refine a_idx (c := 2) i hpp ?_ | refine a_all hrr ?_ | fail)
    have hl : LH w8 M w9 (([(b6, Obj.cells (migL (thenM g h) ⟨.slice (some ⟨bs, 0, none⟩) g.stages.length cap, .slice rva (jnR g h i).length rvc, tv⟩).toArray 30 (0, 0)), (bs, Obj.cells ((thenM g h).stages.flatMap intL ++ junk).toArray 3 (0, 0)), (b4, Obj.cells zeroG.toArray 30 (0, 0))] ++ accT) ++ accR) := hl
    refine o_alloc hl [.string ⟨#[]⟩, .string ⟨#[]⟩] rfl rfl ?_
    clear hl
    intro b12 w10 hb12 hl
    refine o_store hl 0 (pairL q) rfl rfl rfl (by rfl) rfl (by simp [pairL]) (pair_one q) ?_
    clear hl
    intro w11 hl
    have hl : LH w8 M w11 (((b12, .cells (pairL q).toArray 57 (0, 0)) :: [(b6, Obj.cells (migL (thenM g h) ⟨.slice (some ⟨bs, 0, none⟩) g.stages.length cap, .slice rva (jnR g h i).length rvc, tv⟩).toArray 30 (0, 0)), (bs, Obj.cells ((thenM g h).stages.flatMap intL ++ junk).toArray 3 (0, 0)), (b4, Obj.cells zeroG.toArray 30 (0, 0))] ++ accT) ++ accR) := hl
    have hr12 : Row w11 b12 0 [str q.x, str q.y] := hl.rowL (vs := pairL q) 0 0 2 rfl
    have hr6 : Row w11 b6 0 [str g.src, str h.dst, .slice (some ⟨bs, 0, none⟩) g.stages.length cap, .slice rva (jnR g h i).length rvc, tv] := hl.rowL (vs := migL (thenM g h) ⟨.slice (some ⟨bs, 0, none⟩) g.stages.length cap, .slice rva (jnR g h i).length rvc, tv⟩) 1 0 5 rfl
    repeat' (first | refine o_indexArr (k := 1) 0 (by omega) rfl rfl rfl rfl rfl (by omega) ?_ | refine a_row hr12 ?_ | refine a_mov ?_ | refine a_asg ?_ | refine a_binN ?_ | refine a_notb ?_ | refine a_fa ?_ | refine a_ext ?_ | refine a_lenv ?_ | (refine o_nil (hK _ _ ?_); clear hK K) | refine wk_reg ?_ | refine wk_seq fun K hK => ?_ | (refine wk_skip (hK _ _ ?_); clear hK K) | refine wk_block ?_ | refine wk_cond_t rfl ?_ | refine wk_cond_f rfl ?_ | (refine wk_exit ?_; (repeat (refine blockK_other rfl ?_)); refine blockK_same ?_; try ((repeat ((fail_if_success (refine hK _ _ ?_)); clear hK K)); refine hK _ _ ?_; clear hK K)) | (refine a_bin ?_ ?_ <;> intro _ <;> try (exfalso; omega)) | (refine a_st hl ?_; clear hl; intro _ hl) | fail)
    refine o_lookup q.x hm1 (hk1 hl) hky rfl rfl rfl rfl rfl ?_
    rw [if_pos rfl, hn1 q.x]
    cases hf : find g.rights q.x with
    | some y =>
      rw [hf, if_neg (by simp)] at hjs
      repeat' (first | refine a_mov ?_ | refine a_asg ?_ | refine a_binN ?_ | refine a_notb ?_ | refine a_fa ?_ | refine a_ext ?_ | refine a_lenv ?_ | (refine o_nil (hK _ _ ?_); clear hK K) | refine wk_reg ?_ | refine wk_seq fun K hK => ?_ | (refine wk_skip (hK _ _ ?_); clear hK K) | refine wk_block ?_ | refine wk_cond_t rfl ?_ | refine wk_cond_f rfl ?_ | (refine wk_exit ?_; (repeat (refine blockK_other rfl ?_)); refine blockK_same ?_; try ((repeat ((fail_if_success (refine hK _ _ ?_)); clear hK K)); refine hK _ _ ?_; clear hK K)) | (refine a_bin ?_ ?_ <;> intro _ <;> try (exfalso; omega)) | (refine a_st hl ?_; clear hl; intro _ hl) | fail)
      refine o_nil ⟨i + 1, ⟨rfl, rfl, rfl, rfl, rfl, rfl, rfl, rfl, trivial⟩, rfl, ⟨hlt, _, accR, hl.sub (List.sublist_cons_self _ _), ?_⟩, by omega⟩
      rw [hjs]
      exact hR
    | none =>
      rw [hf, if_pos (show (none : Option Tx).isNone = true from rfl)] at hjs
      repeat' (first | refine a_row hr6 ?_ | refine a_all (vs := pairL q) hr12 ?_ | refine a_mov ?_ | refine a_asg ?_ | refine a_binN ?_ | refine a_notb ?_ | refine a_fa ?_ | refine a_ext ?_ | refine a_lenv ?_ | (refine o_nil (hK _ _ ?_); clear hK K) | refine wk_reg ?_ | refine wk_seq fun K hK => ?_ | (refine wk_skip (hK _ _ ?_); clear hK K) | refine wk_block ?_ | refine wk_cond_t rfl ?_ | refine wk_cond_f rfl ?_ | (refine wk_exit ?_; (repeat (refine blockK_other rfl ?_)); refine blockK_same ?_; try ((repeat ((fail_if_success (refine hK _ _ ?_)); clear hK K)); refine hK _ _ ?_; clear hK K)) | (refine a_bin ?_ ?_ <;> intro _ <;> try (exfalso; omega)) | (refine a_st hl ?_; clear hl; intro _ hl) | fail)
      refine o_buildSlice hl (pairL q) rfl rfl (by simp only [pairL, str_eq]; kernel_rfl) ?_
      clear hl
      intro b13 w13 hb13 hl
      have hl : LH w8 M w13 (((b13, .cells (pairL q).toArray 57 (0, 0)) :: (b12, .cells (pairL q).toArray 57 (0, 0)) :: [(b6, Obj.cells (migL (thenM g h) ⟨.slice (some ⟨bs, 0, none⟩) g.stages.length cap, .slice rva (jnR g h i).length rvc, tv⟩).toArray 30 (0, 0)), (bs, Obj.cells ((thenM g h).stages.flatMap intL ++ junk).toArray 3 (0, 0)), (b4, Obj.cells zeroG.toArray 30 (0, 0))] ++ accT) ++ accR) := hl
      refine o_append (k := 2) (bytes := 32) (m := (jnR g h i).length) (q := 1) (us := pairL q) hl hR (hl.rowL (vs := pairL q) 0 0 2 rfl) rfl (pair_one _) (by decide) (by omega) (by omega) rfl rfl (by kernel_rfl) rfl rfl ?_
      clear hl hR
      intro v2 w14 acc2 hl hR
      obtain ⟨x2, y2, rfl⟩ := hR.shape
      repeat' (first | refine a_mov ?_ | refine a_asg ?_ | refine a_binN ?_ | refine a_notb ?_ | refine a_fa ?_ | refine a_ext ?_ | refine a_lenv ?_ | (refine a_bin ?_ ?_ <;> intro _ <;> try (exfalso; omega)) | (refine a_st hl ?_; clear hl; intro _ hl) | fail)
      have hl : LH w8 M _ (((b13, .cells (pairL q).toArray 57 (0, 0)) :: (b12, .cells (pairL q).toArray 57 (0, 0)) :: [(b6, Obj.cells (migL (thenM g h) ⟨.slice (some ⟨bs, 0, none⟩) g.stages.length cap, .slice x2 ((jnR g h i).length + 1) y2, tv⟩).toArray 30 (0, 0)), (bs, Obj.cells ((thenM g h).stages.flatMap intL ++ junk).toArray 3 (0, 0)), (b4, Obj.cells zeroG.toArray 30 (0, 0))] ++ accT) ++ acc2) := hl
      repeat' (first | refine a_mov ?_ | refine a_asg ?_ | refine a_binN ?_ | refine a_notb ?_ | refine a_fa ?_ | refine a_ext ?_ | refine a_lenv ?_ | (refine o_nil (hK _ _ ?_); clear hK K) | refine wk_reg ?_ | refine wk_seq fun K hK => ?_ | (refine wk_skip (hK _ _ ?_); clear hK K) | refine wk_block ?_ | refine wk_cond_t rfl ?_ | refine wk_cond_f rfl ?_ | (refine wk_exit ?_; (repeat (refine blockK_other rfl ?_)); refine blockK_same ?_; try ((repeat ((fail_if_success (refine hK _ _ ?_)); clear hK K)); refine hK _ _ ?_; clear hK K)) | (refine a_bin ?_ ?_ <;> intro _ <;> try (exfalso; omega)) | (refine a_st hl ?_; clear hl; intro _ hl) | fail)
      refine o_nil ⟨i + 1, ⟨rfl, rfl, rfl, rfl, rfl, rfl, rfl, rfl, trivial⟩, rfl, ⟨hlt, _, acc2, hl.sub ((List.sublist_cons_self _ _).trans (List.sublist_cons_self _ _)), ?_⟩, by omega⟩
      rw [hjs, List.flatMap_append, List.length_append]
      exact hR
  obtain rfl : i = h.rights.length := by omega
  rw [jnR_end] at hR
  replace hl := hbk hl
  clear hbk hk1 hk2
  have hlt2 : LimsIn w9 (thenM g h).terms tv := ⟨lg ++ lh, by rw [List.map_append, hlg, hlh]; rfl, LH.acc_sl (LH.left hl) hT, fun p hp => by
    rcases List.mem_append.1 hp with hp | hp
    · exact (hgli p hp).ext hl.done
    · exact (hhli p hp).ext hl.done⟩
  have html : (thenM g h).terms.length = (lg ++ lh).length := by show (g.terms ++ h.terms).length = _; rw [List.length_append, List.length_append, hlgl, hlhl]
  have htmb : (lg ++ lh).length ≤ 120 := by rw [List.length_append]; omega
  obtain ⟨rva, rvc, rfl⟩ := hR.shape
  have hr6 : Row w9 b6 0 [str g.src, str h.dst, .slice (some ⟨bs, 0, none⟩) g.stages.length cap, .slice rva (thenM g h).rights.length rvc, tv] := hl.rowL (vs := migL (thenM g h) ⟨.slice (some ⟨bs, 0, none⟩) g.stages.length cap, .slice rva (thenM g h).rights.length rvc, tv⟩) 0 0 5 rfl
  obtain ⟨da, dc, rfl⟩ := hT.shape
  repeat' (first | refine a_row hr6 ?_ | refine a_mov ?_ | refine a_asg ?_ | refine a_binN ?_ | refine a_notb ?_ | refine a_fa ?_ | refine a_ext ?_ | refine a_lenv ?_ | (refine o_nil (hK _ _ ?_); clear hK K) | refine wk_reg ?_ | refine wk_seq fun K hK => ?_ | (refine wk_skip (hK _ _ ?_); clear hK K) | refine wk_block ?_ | refine wk_cond_t rfl ?_ | refine wk_cond_f rfl ?_ | (refine wk_exit ?_; (repeat (refine blockK_other rfl ?_)); refine blockK_same ?_; try ((repeat ((fail_if_success (refine hK _ _ ?_)); clear hK K)); refine hK _ _ ?_; clear hK K)) | (refine a_bin ?_ ?_ <;> intro _ <;> try (exfalso; omega)) | (refine a_st hl ?_; clear hl; intro _ hl) | fail)
  refine a_fn (onceThen_calls hlt2 (by omega)) ?_
  rintro v w10 ⟨rfl, e10⟩
  replace hl := hl.ext e10
  replace hr6 := hr6.ext e10
  replace hlt2 := hlt2.ext e10
  by_cases hnd : ((thenM g h).terms.map Lim.id).Nodup
  rotate_left
  · rw [decide_eq_false hnd]
    rw [if_neg (fun h => hnd h.1)] at hth
    replace hl := hl.sub (l' := [(b4, .cells zeroG.toArray 30 (0, 0))]) (.cons _ (.cons _ (.cons_cons _ (List.nil_sublist _))))
    repeat' (first | refine a_mov ?_ | refine a_asg ?_ | refine a_binN ?_ | refine a_notb ?_ | refine a_fa ?_ | refine a_ext ?_ | refine a_lenv ?_ | (refine o_nil (hK _ _ ?_); clear hK K) | refine wk_reg ?_ | refine wk_seq fun K hK => ?_ | (refine wk_skip (hK _ _ ?_); clear hK K) | refine wk_block ?_ | refine wk_cond_t rfl ?_ | refine wk_cond_f rfl ?_ | (refine wk_exit ?_; (repeat (refine blockK_other rfl ?_)); refine blockK_same ?_; try ((repeat ((fail_if_success (refine hK _ _ ?_)); clear hK K)); refine hK _ _ ?_; clear hK K)) | (refine a_bin ?_ ?_ <;> intro _ <;> try (exfalso; omega)) | (refine a_st hl ?_; clear hl; intro _ hl) | fail)
    refine o_build zeroG rfl (by kernel_rfl) ?_
    repeat' (first | refine a_mov ?_ | refine a_asg ?_ | refine a_binN ?_ | refine a_notb ?_ | refine a_fa ?_ | refine a_ext ?_ | refine a_lenv ?_ | (refine a_bin ?_ ?_ <;> intro _ <;> try (exfalso; omega)) | (refine a_st hl ?_; clear hl; intro _ hl) | fail)
    refine o_store hl 0 zeroG rfl rfl rfl rfl rfl (by decide) rfl ?_
    clear hl
    intro w9 hl
    replace hl : LH w1 (fun _ => False) w9 [(b4, .cells zeroG.toArray 30 (0, 0))] := hl
    repeat' (first | refine a_mov ?_ | refine a_asg ?_ | refine a_binN ?_ | refine a_notb ?_ | refine a_fa ?_ | refine a_ext ?_ | refine a_lenv ?_ | (refine o_nil (hK _ _ ?_); clear hK K) | refine wk_reg ?_ | refine wk_seq fun K hK => ?_ | (refine wk_skip (hK _ _ ?_); clear hK K) | refine wk_block ?_ | refine wk_cond_t rfl ?_ | refine wk_cond_f rfl ?_ | (refine wk_exit ?_; (repeat (refine blockK_other rfl ?_)); refine blockK_same ?_; try ((repeat ((fail_if_success (refine hK _ _ ?_)); clear hK K)); refine hK _ _ ?_; clear hK K)) | (refine a_bin ?_ ?_ <;> intro _ <;> try (exfalso; omega)) | (refine a_st hl ?_; clear hl; intro _ hl) | fail)
    refine wk_ret (retQ_res [.agg zeroG.toArray, .int .i64 9] rfl rfl ⟨by decide, ⟨⟨b4, 0, none⟩, rfl, run_loadVarN rfl rfl (hl.rowL (vs := zeroG) 0 0 5 rfl)⟩, by decide, rfl, trivial⟩ ?_)
    refine ⟨?_, e1.trans hl.done⟩
    rw [hth]
    exact ⟨9, by decide, rfl⟩
  rw [decide_eq_true hnd]
  by_cases h60 : (thenM g h).rights.length ≤ 60 ∧ (lg ++ lh).length ≤ 60
  rotate_left
  · rw [if_neg (fun h => h60 ⟨h.2.1, by rw [← html]; exact h.2.2⟩)] at hth
    repeat' (first | refine a_row hr6 ?_ | refine a_mov ?_ | refine a_asg ?_ | refine a_binN ?_ | refine a_notb ?_ | refine a_fa ?_ | refine a_ext ?_ | refine a_lenv ?_ | (refine o_nil (hK _ _ ?_); clear hK K) | refine wk_reg ?_ | refine wk_seq fun K hK => ?_ | (refine wk_skip (hK _ _ ?_); clear hK K) | refine wk_block ?_ | refine wk_cond_t rfl ?_ | refine wk_cond_f rfl ?_ | (refine wk_exit ?_; (repeat (refine blockK_other rfl ?_)); refine blockK_same ?_; try ((repeat ((fail_if_success (refine hK _ _ ?_)); clear hK K)); refine hK _ _ ?_; clear hK K)) | (refine a_bin ?_ ?_ <;> intro _ <;> try (exfalso; omega)) | (refine a_st hl ?_; clear hl; intro _ hl) | refine o_max rfl rfl rfl ?_ | fail)
    replace hl := hl.sub (l' := [(b4, .cells zeroG.toArray 30 (0, 0))]) (.cons _ (.cons _ (.cons_cons _ (List.nil_sublist _))))
    refine o_build zeroG rfl (by kernel_rfl) ?_
    repeat' (first | refine a_mov ?_ | refine a_asg ?_ | refine a_binN ?_ | refine a_notb ?_ | refine a_fa ?_ | refine a_ext ?_ | refine a_lenv ?_ | (refine a_bin ?_ ?_ <;> intro _ <;> try (exfalso; omega)) | (refine a_st hl ?_; clear hl; intro _ hl) | fail)
    refine o_store hl 0 zeroG rfl rfl rfl rfl rfl (by decide) rfl ?_
    clear hl
    intro w9 hl
    replace hl : LH w1 (fun _ => False) w9 [(b4, .cells zeroG.toArray 30 (0, 0))] := hl
    repeat' (first | refine a_mov ?_ | refine a_asg ?_ | refine a_binN ?_ | refine a_notb ?_ | refine a_fa ?_ | refine a_ext ?_ | refine a_lenv ?_ | (refine o_nil (hK _ _ ?_); clear hK K) | refine wk_reg ?_ | refine wk_seq fun K hK => ?_ | (refine wk_skip (hK _ _ ?_); clear hK K) | refine wk_block ?_ | refine wk_cond_t rfl ?_ | refine wk_cond_f rfl ?_ | (refine wk_exit ?_; (repeat (refine blockK_other rfl ?_)); refine blockK_same ?_; try ((repeat ((fail_if_success (refine hK _ _ ?_)); clear hK K)); refine hK _ _ ?_; clear hK K)) | (refine a_bin ?_ ?_ <;> intro _ <;> try (exfalso; omega)) | (refine a_st hl ?_; clear hl; intro _ hl) | fail)
    refine wk_ret (retQ_res [.agg zeroG.toArray, .int .i64 2] rfl rfl ⟨by decide, ⟨⟨b4, 0, none⟩, rfl, run_loadVarN rfl rfl (hl.rowL (vs := zeroG) 0 0 5 rfl)⟩, by decide, rfl, trivial⟩ ?_)
    refine ⟨?_, e1.trans hl.done⟩
    rw [hth]
    exact ⟨2, by decide, rfl⟩
  rw [if_pos ⟨hnd, h60.1, by rw [html]; exact h60.2⟩] at hth
  repeat' (first | refine a_row hr6 ?_ | refine a_mov ?_ | refine a_asg ?_ | refine a_binN ?_ | refine a_notb ?_ | refine a_fa ?_ | refine a_ext ?_ | refine a_lenv ?_ | (refine o_nil (hK _ _ ?_); clear hK K) | refine wk_reg ?_ | refine wk_seq fun K hK => ?_ | (refine wk_skip (hK _ _ ?_); clear hK K) | refine wk_block ?_ | refine wk_cond_t rfl ?_ | refine wk_cond_f rfl ?_ | (refine wk_exit ?_; (repeat (refine blockK_other rfl ?_)); refine blockK_same ?_; try ((repeat ((fail_if_success (refine hK _ _ ?_)); clear hK K)); refine hK _ _ ?_; clear hK K)) | (refine a_bin ?_ ?_ <;> intro _ <;> try (exfalso; omega)) | (refine a_st hl ?_; clear hl; intro _ hl) | refine o_max rfl rfl rfl ?_ | fail)
  refine a_all hr6 ?_
  refine o_store hl 2 (migL (thenM g h) ⟨.slice (some ⟨bs, 0, none⟩) g.stages.length cap, .slice rva (thenM g h).rights.length rvc, .slice da (lg ++ lh).length dc⟩) rfl rfl rfl rfl rfl (by rw [migL_len]; decide) (by simp only [migL, List.all_cons, str_eq]; rfl) ?_
  clear hl
  intro w11 hl
  have hl : LH w1 (fun _ => False) w11 ([(b6, .cells (migL (thenM g h) ⟨.slice (some ⟨bs, 0, none⟩) g.stages.length cap, .slice rva (thenM g h).rights.length rvc, .slice da (lg ++ lh).length dc⟩).toArray 30 (0, 0)), (bs, .cells ((thenM g h).stages.flatMap intL ++ junk).toArray 3 (0, 0)), (b4, .cells (migL (thenM g h) ⟨.slice (some ⟨bs, 0, none⟩) g.stages.length cap, .slice rva (thenM g h).rights.length rvc, .slice da (lg ++ lh).length dc⟩).toArray 30 (0, 0))] ++ accT ++ accR) := hl
  repeat' (first | refine a_mov ?_ | refine a_asg ?_ | refine a_binN ?_ | refine a_notb ?_ | refine a_fa ?_ | refine a_ext ?_ | refine a_lenv ?_ | (refine o_nil (hK _ _ ?_); clear hK K) | refine wk_reg ?_ | refine wk_seq fun K hK => ?_ | (refine wk_skip (hK _ _ ?_); clear hK K) | refine wk_block ?_ | refine wk_cond_t rfl ?_ | refine wk_cond_f rfl ?_ | (refine wk_exit ?_; (repeat (refine blockK_other rfl ?_)); refine blockK_same ?_; try ((repeat ((fail_if_success (refine hK _ _ ?_)); clear hK K)); refine hK _ _ ?_; clear hK K)) | (refine a_bin ?_ ?_ <;> intro _ <;> try (exfalso; omega)) | (refine a_st hl ?_; clear hl; intro _ hl) | fail)
  refine wk_ret (retQ_res [.agg (migL (thenM g h) ⟨.slice (some ⟨bs, 0, none⟩) g.stages.length cap, .slice rva (thenM g h).rights.length rvc, .slice da (lg ++ lh).length dc⟩).toArray, .int .i64 0] rfl rfl ⟨by decide, ⟨⟨b4, 0, none⟩, rfl, run_loadVarN rfl rfl (hl.rowL (vs := migL (thenM g h) ⟨.slice (some ⟨bs, 0, none⟩) g.stages.length cap, .slice rva (thenM g h).rights.length rvc, .slice da (lg ++ lh).length dc⟩) 2 0 5 rfl)⟩, by decide, rfl, trivial⟩ ?_)
  refine ⟨?_, e1.trans hl.done⟩
  rw [hth]
  have hsl : (thenM g h).stages.length = g.stages.length := by unfold thenM; simp only [List.length_map]
  have hfl := flat_length intL_len (thenM g h).stages
  have hrow := hl.rowL (vs := (thenM g h).stages.flatMap intL ++ junk) 1 0 ((thenM g h).stages.flatMap intL).length rfl
  rw [List.drop_zero, List.take_left] at hrow
  refine ⟨⟨.slice (some ⟨bs, 0, none⟩) g.stages.length cap, .slice rva (thenM g h).rights.length rvc, .slice da (lg ++ lh).length dc⟩, rfl, ⟨.mk (by rw [hfl, hsl]) c1 hrow, by rw [hsl]; omega⟩, ⟨LH.acc_sl hl hR, by have := h60.1; omega⟩, ⟨lg ++ lh, by rw [List.map_append, hlg, hlh]; rfl, LH.acc_sl (LH.left hl) hT, fun p hp => ?_⟩, by rw [html]; omega⟩
  rcases List.mem_append.1 hp with hp | hp
  · exact (hgli p hp).ext hl.done
  · exact (hhli p hp).ext hl.done
end Go.Proofs
