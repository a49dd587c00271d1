/-
  Matters: is a time limit proper; is a matter formed; is a procedure valid.
-/
import Derived.Test.YtpmjolbnmoejdaaGreatDoorQToT
import Derived.Test.YtpmjolbnmoejdaaGreatDoorQOq
set_option linter.unusedVariables false
set_option linter.unusedSimpArgs false
set_option linter.unnecessarySimpa false
set_option maxRecDepth 10000
namespace Go.Top
theorem pause_one (l : Lim) : Go.Proofs.pauseE l ⟨0, 0⟩ = 1 ↔ properB l = false := by
  have h : stopB ⟨0, 0⟩ = true := by decide
  unfold Go.Proofs.pauseE
  rw [h, Bool.and_true]
  cases properB l
  · simp
  · simp
    split <;> decide
theorem diffB_map {α β κ : Type} [DecidableEq κ] (g : α → β) (key : β → κ) (good : β → Bool) (l : List α) : diffB (fun x => key (g x)) (fun x => good (g x)) l = diffB key good (l.map g) := by
  unfold diffB
  rw [List.all_map, List.map_map, List.length_map]
  rfl
end Go.Top
namespace Go.Proofs
open Go Go.Pd Go.Top
open Go.Fin (Nm)
attribute [local irreducible] OpsL W RetQ OpsQ OpsC
theorem mproper_calls {p : Lim × Value} {w : World} (h : LimIn w p) : Calls Tryz.prog 88 #[.agg (limL p).toArray] w (fun e w' => ∃ v, e = .returned v ∧ v = .bool (properB p.1) ∧ Ext w w') := by
  refine calls_of Tryz.func88 rfl Tryz.ntmps88 rfl ?_
  repeat' (first | refine a_mov ?_ | refine a_asg ?_ | refine a_ext ?_ | (refine o_nil (hK _ _ ?_); clear hK K) | refine wk_reg ?_ | refine wk_seq fun K hK => ?_ | (refine a_bin ?_ ?_ <;> intro _ <;> try (exfalso; omega)) | fail)
  refine o_box (LH.start w (fun _ => False)) (limL p) (by rfl) rfl rfl ?_
  intro b1 w1 hb1 hl
  repeat' (first | refine a_mov ?_ | refine a_asg ?_ | refine a_ext ?_ | (refine o_nil (hK _ _ ?_); clear hK K) | refine wk_reg ?_ | refine wk_seq fun K hK => ?_ | (refine a_bin ?_ ?_ <;> intro _ <;> try (exfalso; omega)) | fail)
  refine a_all (vs := limL p) (hl.rowL 0 0 5 rfl) ?_
  refine o_build (stopL ⟨0, 0⟩) rfl (by kernel_rfl) ?_
  refine a_fn (pause_calls (h.ext hl.done) ⟨0, 0⟩) ?_
  rintro v w2 ⟨⟨vs, hv1, hv2, rfl⟩, e2⟩
  replace hl := hl.ext e2
  repeat' (first | refine a_mov ?_ | refine a_asg ?_ | refine a_ext ?_ | (refine a_bin ?_ ?_ <;> intro _ <;> try (exfalso; omega)) | fail)
  refine o_alloc hl zeroL rfl (by kernel_rfl) ?_
  clear hl
  intro b3 w3 hb3 hl
  repeat' (first | refine a_mov ?_ | refine a_asg ?_ | refine a_ext ?_ | (refine a_bin ?_ ?_ <;> intro _ <;> try (exfalso; omega)) | fail)
  refine o_store hl 0 vs rfl rfl rfl rfl (congrArg some hv1.symm) (by rw [hv1]; decide) hv2 ?_
  clear hl
  intro w4 hl
  have e4 : Ext w w4 := hl.done
  clear hl
  have hpe := pause_one p.1
  generalize pauseE p.1 ⟨0, 0⟩ = e at *
  by_cases he : e = 1
  · repeat' (first | refine a_mov ?_ | refine a_asg ?_ | refine a_ext ?_ | (refine o_nil (hK _ _ ?_); clear hK K) | refine wk_reg ?_ | refine wk_seq fun K hK => ?_ | (refine a_bin ?_ ?_ <;> intro _ <;> try (exfalso; omega)) | fail)
    refine wk_ret (retQ_tmp1 Tryz.results88 (by decide) rfl (by conv => lhs; whnf) ?_)
    exact ⟨by rw [hpe.1 he], e4⟩
  · have hp : properB p.1 = true := by
      cases hh : properB p.1
      · exact absurd (hpe.2 hh) he
      · rfl
    repeat' (first | refine a_mov ?_ | refine a_asg ?_ | refine a_ext ?_ | (refine o_nil (hK _ _ ?_); clear hK K) | refine wk_reg ?_ | refine wk_seq fun K hK => ?_ | (refine a_bin ?_ ?_ <;> intro _ <;> try (exfalso; omega)) | fail)
    refine wk_ret (retQ_tmp1 Tryz.results88 (by decide) rfl (by conv => lhs; whnf) ?_)
    exact ⟨by rw [hp], e4⟩
/-! ### A matter in memory -/
structure MV where
  c : Value
  mv : Value
  r : Value
  l : Value
def intL (z : Int) : List Value := [.int .i64 z]
theorem intL_len (z : Int) : (intL z).length = 1 := rfl
def matL (m : Mat) (x : MV) : List Value := [str m.id, .int .i64 m.opened, x.c, str m.proc, .int .i64 m.stage, x.mv, x.r, x.l]
theorem matL_len (m : Mat) (x : MV) : (matL m x).length = 8 := rfl
def LimsIn (w : World) (ls : List Lim) (v : Value) : Prop := ∃ lp : List (Lim × Value), lp.map Prod.fst = ls ∧ Sl w v 5 (lp.flatMap limL) ∧ ∀ p ∈ lp, LimIn w p
theorem LimsIn.ext {w w' : World} {ls : List Lim} {v : Value} (h : LimsIn w ls v) (e : Ext w w') : LimsIn w' ls v := by
  obtain ⟨lp, h1, h2, h3⟩ := h
  exact ⟨lp, h1, h2.ext e, fun p hp => (h3 p hp).ext e⟩
def MatIn (w : World) (m : Mat) (x : MV) : Prop :=
  (Sl w x.c 1 (m.cas.flatMap intL) ∧ m.cas.length ≤ 140737488351232) ∧ (Sl w x.mv 1 (m.moved.flatMap intL) ∧ m.moved.length ≤ 140737488351232) ∧ (Sl w x.r 2 (m.rights.flatMap rightL) ∧ m.rights.length ≤ 140737488351232) ∧ (LimsIn w m.limits x.l ∧ m.limits.length ≤ 140737488351232)
theorem MatIn.ext {w w' : World} {m : Mat} {x : MV} (h : MatIn w m x) (e : Ext w w') : MatIn w' m x :=
  ⟨⟨h.1.1.ext e, h.1.2⟩, ⟨h.2.1.1.ext e, h.2.1.2⟩, ⟨h.2.2.1.1.ext e, h.2.2.1.2⟩, ⟨h.2.2.2.1.ext e, h.2.2.2.2⟩⟩
theorem lim_one {w : World} {p : Lim × Value} (h : LimIn w p) : (limL p).all Value.oneCell' = true := by
  obtain ⟨a, c, h1⟩ := lim_shape h
  exact limL_one p (by rw [h1]; rfl)
theorem limDiff_calls {ls : List Lim} {hv : Value} {w : World} (h : LimsIn w ls hv) (hn : ls.length ≤ 140737488351232) : Calls Tryz.prog 86 #[hv, .func (.func 87) #[] #[], .func (.func 88) #[] #[]] w (fun e w' => ∃ v, e = .returned v ∧ v = .bool (diffB Lim.id properB ls) ∧ Ext w w') := by
  obtain ⟨lp, rfl, hs, hl⟩ := h
  refine Calls.mono (limitDiff_calls (key := fun p : Lim × Value => p.1.id) (good := fun p => properB p.1) limL_len (fun p hp => lim_one (hl p hp)) hs (by simpa using hn) (fun p hp w1 e1 => ⟨_, _, _, rfl, fun _ => rfl, mproper_calls ((hl p hp).ext e1)⟩) (fun p hp w1 e1 => ⟨_, _, _, rfl, fun _ => rfl, limKey_calls p w1⟩)) ?_
  rintro e w' ⟨v, h1, h2, h3⟩
  exact ⟨v, h1, by rw [h2, ← diffB_map Prod.fst], h3⟩
theorem rDiff_calls {rs : List Right} {o : Int} {hv : Value} {bm : Nat} {vs : List Value} {w : World} (h : Sl w hv 2 (rs.flatMap rightL)) (hn : rs.length ≤ 140737488351232) (hm : Row w bm 0 vs) (ho : vs[1]? = some (.int .i64 o)) : Calls Tryz.prog 83 #[hv, .func (.func 84) #[] #[], .func (.func 85) #[] #[.pointer (some ⟨bm, 0, none⟩)]] w (fun e w' => ∃ v, e = .returned v ∧ v = .bool (diffB Right.name (rightB o) rs) ∧ Ext w w') :=
  rightDiff_calls (key := Right.name) (good := rightB o) rightL_len (fun _ _ => by simp only [rightL, List.all_cons, str_eq]; rfl) h hn (fun r hr w1 e1 => ⟨_, _, _, rfl, fun _ => rfl, rightGood_calls r o (hm.ext e1) ho⟩) (fun r hr w1 e1 => ⟨_, _, _, rfl, fun _ => rfl, rightKey_calls r w1⟩)
theorem caseB_any (l : List Int) : caseB l = !(l.any fun z => !decide (0 ≤ z ∧ z ≤ 1000000)) := by
  unfold caseB
  rw [List.not_any_eq_all_not]
  simp
theorem cAny_calls {l : List Int} {hv : Value} {w : World} (h : Sl w hv 1 (l.flatMap intL)) (hn : l.length ≤ 140737488351232) : Calls Tryz.prog 78 #[hv, .func (.func 79) #[] #[]] w (fun e w' => ∃ v, e = .returned v ∧ v = .bool (l.any fun z => !decide (0 ≤ z ∧ z ≤ 1000000)) ∧ Ext w w') :=
  caseAny_calls (f := intL) intL_len h hn fun z hz w1 e1 => ⟨_, _, _, rfl, fun _ => rfl, (caseBad_calls z w1).mono fun e w' ⟨v, h1, h2, h3⟩ => ⟨v, h1, h2, by rw [h3]; exact .refl _ _⟩⟩
set_option maxHeartbeats 8000000 in
theorem formed_calls {m : Mat} {x : MV} {w : World} (h : MatIn w m x) : Calls Tryz.prog 41 #[.agg (matL m x).toArray] w (fun e w' => ∃ v, e = .returned v ∧ v = .bool (formB m) ∧ Ext w w') := by
  obtain ⟨⟨hc, hcl⟩, ⟨hm, hml⟩, ⟨hr, hrl⟩, hli, hlil⟩ := h
  have hform : formB m = (Nm m.id && Nm m.proc && isD m.opened && decide (0 ≤ m.stage ∧ m.stage < 60) && caseB m.cas && decide (m.cas.length ≤ 60) && movedB m.opened m.moved && decide (m.moved.length ≤ 60) &&
  (diffB Right.name (rightB m.opened) m.rights && diffB Lim.id properB m.limits)) := rfl
  obtain ⟨xc, xm, xr, xl⟩ := x
  obtain ⟨ca, cc, rfl, hcp⟩ := sl_each intL_len (by decide) hc
  obtain ⟨ma, mc, rfl, hmp⟩ := sl_each intL_len (by decide) hm
  refine calls_of Tryz.func41 rfl Tryz.ntmps41 rfl ?_
  repeat' (first | refine a_mov ?_ | refine a_asg ?_ | refine a_notb ?_ | refine a_fa ?_ | refine a_lenv ?_ | refine a_pick_t ?_ | refine a_pick_f ?_ | refine a_not ?_ | (refine o_nil (hK _ _ ?_); clear hK K) | refine wk_reg ?_ | refine wk_seq fun K hK => ?_ | (refine wk_skip (hK _ _ ?_); clear hK K) | refine wk_cond_t rfl ?_ | refine wk_cond_f rfl ?_ | (refine a_bin ?_ ?_ <;> intro _ <;> try (exfalso; omega)) | fail)
  refine o_box (LH.start w (fun _ => False)) (matL m ⟨.slice ca m.cas.length cc, .slice ma m.moved.length mc, xr, xl⟩) (by rfl) rfl rfl ?_
  intro b1 w1 hb1 hl
  have e1 : Ext w w1 := hl.done
  have hrow : Row w1 b1 0 [str m.id, .int .i64 m.opened, .slice ca m.cas.length cc, str m.proc, .int .i64 m.stage, .slice ma m.moved.length mc, xr, xl] := hl.rowL (vs := matL m ⟨.slice ca m.cas.length cc, .slice ma m.moved.length mc, xr, xl⟩) 0 0 8 rfl
  clear hl
  repeat' (first | refine a_row hrow ?_ | refine a_mov ?_ | refine a_asg ?_ | refine a_notb ?_ | refine a_fa ?_ | refine a_lenv ?_ | refine a_pick_t ?_ | refine a_pick_f ?_ | refine a_not ?_ | (refine o_nil (hK _ _ ?_); clear hK K) | refine wk_reg ?_ | refine wk_seq fun K hK => ?_ | (refine wk_skip (hK _ _ ?_); clear hK K) | refine wk_cond_t rfl ?_ | refine wk_cond_f rfl ?_ | (refine a_bin ?_ ?_ <;> intro _ <;> try (exfalso; omega)) | fail)
  refine a_fn (cAny_calls (hc.ext e1) hcl) ?_
  rintro v w2 ⟨rfl, e2⟩
  replace hrow := hrow.ext e2
  replace e2 := e1.trans e2
  clear e1
  rw [caseB_any] at hform
  generalize (m.cas.any fun z => !decide (0 ≤ z ∧ z ≤ 1000000)) = cb at *
  repeat' (first | refine a_mov ?_ | refine a_asg ?_ | refine a_notb ?_ | refine a_fa ?_ | refine a_lenv ?_ | refine a_pick_t ?_ | refine a_pick_f ?_ | refine a_not ?_ | (refine a_bin ?_ ?_ <;> intro _ <;> try (exfalso; omega)) | fail)
  refine o_nil (hK _ _ ?_)
  clear hK K
  refine wk_seq fun K hK => ?_
  refine wk_cut [] (fun _ : Unit => [(1, .pointer (some ⟨b1, 0, none⟩)), (2, .bool false), (3, .bool (!cb)), (4, .bool (movedB m.opened m.moved))]) (fun _ w' => Ext w2 w') ?_ ?_
  · have hsort : ∀ w_, Ext w2 w_ → Calls Tryz.prog 80 #[.slice ma m.moved.length mc] w_ (fun e w' => ∃ v, e = .returned v ∧ v = .bool (sortedI m.moved) ∧ Ext w_ w') := fun w_ he => isSorted_calls (hm.ext (e2.trans he)) hml
    have his : ∀ z : Int, ∀ w_, Ext w2 w_ → Calls Tryz.prog 81 #[.int .i64 z] w_ (fun e w' => ∃ v, e = .returned v ∧ v = .bool (isD z) ∧ Ext w_ w') := fun z w_ he => (mis_calls z w_).mono fun e w' ⟨v, h1, h2, h3⟩ => ⟨v, h1, h2, by rw [h3]; exact .refl _ _⟩
    have hmv : movedB m.opened m.moved = (sortedI m.moved && (decide (m.moved = []) || (decide (m.opened ≤ m.moved.headD 0) && isD (m.moved.getLastD 0)))) := rfl
    refine wk_quiet (List.range 30) ?_
    cases hs : sortedI m.moved
    · rw [hs] at hsort hmv
      rw [hmv]
      repeat' (first | refine q_mov ?_ | refine q_asg ?_ | refine q_fa ?_ | refine q_binN ?_ | refine q_pick_t ?_ | refine q_pick_f ?_ | refine q_skip ?_ | refine q_lenv ?_ | refine q_nil ?_ | (refine q_bin ?_ ?_ <;> intro _ <;> try (exfalso; omega)) | refine q_row (fun w_ hw_ => hrow.ext hw_) ?_ | refine q_fn hsort ?_ | fail)
      intro w3 e3
      exact ⟨(), ⟨rfl, rfl, rfl, rfl, trivial⟩, rfl, e3⟩
    rw [hs] at hsort hmv
    by_cases hne : m.moved = []
    · have hlen0 : m.moved.length = 0 := by rw [hne]; rfl
      rw [decide_eq_true hne] at hmv
      rw [hmv]
      rw [hlen0] at hrow hsort
      repeat' (first | refine q_mov ?_ | refine q_asg ?_ | refine q_fa ?_ | refine q_binN ?_ | refine q_pick_t ?_ | refine q_pick_f ?_ | refine q_skip ?_ | refine q_lenv ?_ | refine q_nil ?_ | (refine q_bin ?_ ?_ <;> intro _ <;> try (exfalso; omega)) | refine q_row (fun w_ hw_ => hrow.ext hw_) ?_ | refine q_fn hsort ?_ | fail)
      intro w3 e3
      exact ⟨(), ⟨rfl, rfl, rfl, rfl, trivial⟩, rfl, e3⟩
    have hpos : 0 < m.moved.length := by
      cases hh : m.moved with
      | nil => exact absurd hh hne
      | cons a l => simp
    obtain ⟨b0, o0, hp0, hr0⟩ := hmp 0 hpos
    obtain ⟨b9, o9, hp9, hr9⟩ := hmp (m.moved.length - 1) (by omega)
    have hr0 : ∀ w_, Ext w2 w_ → Row w_ b0 (o0 + 0 * 1) [.int .i64 (m.moved.headD 0)] := fun w_ he => by
      have := hr0 w_ (e2.trans he)
      have hq : m.moved[0] = m.moved.headD 0 := by
        rw [List.headD_eq_head?_getD, List.head?_eq_getElem?, List.getElem?_eq_getElem hpos]
        rfl
      rw [hq] at this
      exact this
    have hr9 : ∀ w_, Ext w2 w_ → Row w_ b9 (o9 + (m.moved.length - 1) * 1) [.int .i64 (m.moved.getLastD 0)] := fun w_ he => by
      have := hr9 w_ (e2.trans he)
      have hq : m.moved[m.moved.length - 1] = m.moved.getLastD 0 := by
        rw [← List.getLast_eq_getElem hne, List.getLastD_eq_getLast?, List.getLast?_eq_some_getLast hne]
        rfl
      rw [hq] at this
      exact this
    rw [decide_eq_false hne] at hmv
    generalize m.moved.headD 0 = z0 at *
    generalize m.moved.getLastD 0 = z9 at *
    by_cases hge : m.opened ≤ z0
    · rw [decide_eq_true hge] at hmv
      rw [hmv]
      repeat' (first | refine q_mov ?_ | refine q_asg ?_ | refine q_fa ?_ | refine q_binN ?_ | refine q_pick_t ?_ | refine q_pick_f ?_ | refine q_skip ?_ | refine q_lenv ?_ | refine q_nil ?_ | (refine q_bin ?_ ?_ <;> intro _ <;> try (exfalso; omega)) | refine q_row (fun w_ hw_ => hrow.ext hw_) ?_ | refine q_row hr0 ?_ | refine q_row hr9 ?_ | refine q_idx (c := 1) 0 hp0 ?_ | refine q_idx (c := 1) (m.moved.length - 1) hp9 ?_ | refine q_fn hsort ?_ | refine q_fn (his z9) ?_ | fail)
      intro w3 e3
      exact ⟨(), ⟨rfl, rfl, rfl, rfl, trivial⟩, rfl, e3⟩
    · rw [decide_eq_false hge] at hmv
      rw [hmv]
      repeat' (first | refine q_mov ?_ | refine q_asg ?_ | refine q_fa ?_ | refine q_binN ?_ | refine q_pick_t ?_ | refine q_pick_f ?_ | refine q_skip ?_ | refine q_lenv ?_ | refine q_nil ?_ | (refine q_bin ?_ ?_ <;> intro _ <;> try (exfalso; omega)) | refine q_row (fun w_ hw_ => hrow.ext hw_) ?_ | refine q_row hr0 ?_ | refine q_row hr9 ?_ | refine q_idx (c := 1) 0 hp0 ?_ | refine q_idx (c := 1) (m.moved.length - 1) hp9 ?_ | refine q_fn hsort ?_ | refine q_fn (his z9) ?_ | fail)
      intro w3 e3
      exact ⟨(), ⟨rfl, rfl, rfl, rfl, trivial⟩, rfl, e3⟩
  rintro _ t w3 e3
  refine hK _ _ ?_
  clear hK K hcp hmp
  replace hrow := hrow.ext e3
  replace e3 := e2.trans e3
  generalize movedB m.opened m.moved = mb at *
  repeat' (first | refine a_row hrow ?_ | refine a_mov ?_ | refine a_asg ?_ | refine a_notb ?_ | refine a_fa ?_ | refine a_lenv ?_ | refine a_pick_t ?_ | refine a_pick_f ?_ | refine a_not ?_ | (refine o_nil (hK _ _ ?_); clear hK K) | refine wk_reg ?_ | refine wk_seq fun K hK => ?_ | (refine wk_skip (hK _ _ ?_); clear hK K) | refine wk_cond_t rfl ?_ | refine wk_cond_f rfl ?_ | (refine a_bin ?_ ?_ <;> intro _ <;> try (exfalso; omega)) | fail)
  refine a_fn (name_calls m.id w3) ?_
  rintro v w4 ⟨rfl, e4⟩
  replace hrow := hrow.ext e4
  replace e4 := e3.trans e4
  generalize Nm m.id = n1 at *
  cases n1
  · repeat' (first | refine a_row hrow ?_ | refine a_mov ?_ | refine a_asg ?_ | refine a_notb ?_ | refine a_fa ?_ | refine a_lenv ?_ | refine a_pick_t ?_ | refine a_pick_f ?_ | refine a_not ?_ | (refine o_nil (hK _ _ ?_); clear hK K) | refine wk_reg ?_ | refine wk_seq fun K hK => ?_ | (refine wk_skip (hK _ _ ?_); clear hK K) | refine wk_cond_t rfl ?_ | refine wk_cond_f rfl ?_ | (refine a_bin ?_ ?_ <;> intro _ <;> try (exfalso; omega)) | fail)
    refine wk_ret (retQ_tmp1 Tryz.results41 (by decide) rfl (by conv => lhs; whnf) ?_)
    exact ⟨by rw [hform]; rfl, e4⟩
  repeat' (first | refine a_row hrow ?_ | refine a_mov ?_ | refine a_asg ?_ | refine a_notb ?_ | refine a_fa ?_ | refine a_lenv ?_ | refine a_pick_t ?_ | refine a_pick_f ?_ | refine a_not ?_ | (refine o_nil (hK _ _ ?_); clear hK K) | refine wk_reg ?_ | refine wk_seq fun K hK => ?_ | (refine wk_skip (hK _ _ ?_); clear hK K) | refine wk_cond_t rfl ?_ | refine wk_cond_f rfl ?_ | (refine a_bin ?_ ?_ <;> intro _ <;> try (exfalso; omega)) | fail)
  refine a_fn (name_calls m.proc w4) ?_
  rintro v w5 ⟨rfl, e5⟩
  replace hrow := hrow.ext e5
  replace e5 := e4.trans e5
  generalize Nm m.proc = n2 at *
  cases n2
  · repeat' (first | refine a_row hrow ?_ | refine a_mov ?_ | refine a_asg ?_ | refine a_notb ?_ | refine a_fa ?_ | refine a_lenv ?_ | refine a_pick_t ?_ | refine a_pick_f ?_ | refine a_not ?_ | (refine o_nil (hK _ _ ?_); clear hK K) | refine wk_reg ?_ | refine wk_seq fun K hK => ?_ | (refine wk_skip (hK _ _ ?_); clear hK K) | refine wk_cond_t rfl ?_ | refine wk_cond_f rfl ?_ | (refine a_bin ?_ ?_ <;> intro _ <;> try (exfalso; omega)) | fail)
    refine wk_ret (retQ_tmp1 Tryz.results41 (by decide) rfl (by conv => lhs; whnf) ?_)
    exact ⟨by rw [hform]; rfl, e5⟩
  repeat' (first | refine a_row hrow ?_ | refine a_mov ?_ | refine a_asg ?_ | refine a_notb ?_ | refine a_fa ?_ | refine a_lenv ?_ | refine a_pick_t ?_ | refine a_pick_f ?_ | refine a_not ?_ | (refine o_nil (hK _ _ ?_); clear hK K) | refine wk_reg ?_ | refine wk_seq fun K hK => ?_ | (refine wk_skip (hK _ _ ?_); clear hK K) | refine wk_cond_t rfl ?_ | refine wk_cond_f rfl ?_ | (refine a_bin ?_ ?_ <;> intro _ <;> try (exfalso; omega)) | fail)
  refine a_fn (mis_calls m.opened w5) ?_
  rintro v w5 ⟨rfl, rfl⟩
  generalize isD m.opened = n3 at *
  cases n3
  · repeat' (first | refine a_row hrow ?_ | refine a_mov ?_ | refine a_asg ?_ | refine a_notb ?_ | refine a_fa ?_ | refine a_lenv ?_ | refine a_pick_t ?_ | refine a_pick_f ?_ | refine a_not ?_ | (refine o_nil (hK _ _ ?_); clear hK K) | refine wk_reg ?_ | refine wk_seq fun K hK => ?_ | (refine wk_skip (hK _ _ ?_); clear hK K) | refine wk_cond_t rfl ?_ | refine wk_cond_f rfl ?_ | (refine a_bin ?_ ?_ <;> intro _ <;> try (exfalso; omega)) | fail)
    refine wk_ret (retQ_tmp1 Tryz.results41 (by decide) rfl (by conv => lhs; whnf) ?_)
    exact ⟨by rw [hform]; rfl, e5⟩
  by_cases h4 : 0 ≤ m.stage ∧ m.stage < 60
  rotate_left
  · rw [decide_eq_false h4] at hform
    repeat' (first | refine a_row hrow ?_ | refine a_mov ?_ | refine a_asg ?_ | refine a_notb ?_ | refine a_fa ?_ | refine a_lenv ?_ | refine a_pick_t ?_ | refine a_pick_f ?_ | refine a_not ?_ | (refine o_nil (hK _ _ ?_); clear hK K) | refine wk_reg ?_ | refine wk_seq fun K hK => ?_ | (refine wk_skip (hK _ _ ?_); clear hK K) | refine wk_cond_t rfl ?_ | refine wk_cond_f rfl ?_ | (refine a_bin ?_ ?_ <;> intro _ <;> try (exfalso; omega)) | fail)
    all_goals (refine wk_ret (retQ_tmp1 Tryz.results41 (by decide) rfl (by conv => lhs; whnf) ?_))
    all_goals exact ⟨by rw [hform]; rfl, e5⟩
  rw [decide_eq_true h4] at hform
  cases cb
  rotate_left
  · repeat' (first | refine a_row hrow ?_ | refine a_mov ?_ | refine a_asg ?_ | refine a_notb ?_ | refine a_fa ?_ | refine a_lenv ?_ | refine a_pick_t ?_ | refine a_pick_f ?_ | refine a_not ?_ | (refine o_nil (hK _ _ ?_); clear hK K) | refine wk_reg ?_ | refine wk_seq fun K hK => ?_ | (refine wk_skip (hK _ _ ?_); clear hK K) | refine wk_cond_t rfl ?_ | refine wk_cond_f rfl ?_ | (refine a_bin ?_ ?_ <;> intro _ <;> try (exfalso; omega)) | fail)
    refine wk_ret (retQ_tmp1 Tryz.results41 (by decide) rfl (by conv => lhs; whnf) ?_)
    exact ⟨by rw [hform]; rfl, e5⟩
  by_cases h6 : m.cas.length ≤ 60
  rotate_left
  · rw [decide_eq_false h6] at hform
    repeat' (first | refine a_row hrow ?_ | refine a_mov ?_ | refine a_asg ?_ | refine a_notb ?_ | refine a_fa ?_ | refine a_lenv ?_ | refine a_pick_t ?_ | refine a_pick_f ?_ | refine a_not ?_ | (refine o_nil (hK _ _ ?_); clear hK K) | refine wk_reg ?_ | refine wk_seq fun K hK => ?_ | (refine wk_skip (hK _ _ ?_); clear hK K) | refine wk_cond_t rfl ?_ | refine wk_cond_f rfl ?_ | (refine a_bin ?_ ?_ <;> intro _ <;> try (exfalso; omega)) | fail)
    refine wk_ret (retQ_tmp1 Tryz.results41 (by decide) rfl (by conv => lhs; whnf) ?_)
    exact ⟨by rw [hform]; rfl, e5⟩
  rw [decide_eq_true h6] at hform
  cases mb
  · repeat' (first | refine a_row hrow ?_ | refine a_mov ?_ | refine a_asg ?_ | refine a_notb ?_ | refine a_fa ?_ | refine a_lenv ?_ | refine a_pick_t ?_ | refine a_pick_f ?_ | refine a_not ?_ | (refine o_nil (hK _ _ ?_); clear hK K) | refine wk_reg ?_ | refine wk_seq fun K hK => ?_ | (refine wk_skip (hK _ _ ?_); clear hK K) | refine wk_cond_t rfl ?_ | refine wk_cond_f rfl ?_ | (refine a_bin ?_ ?_ <;> intro _ <;> try (exfalso; omega)) | fail)
    refine wk_ret (retQ_tmp1 Tryz.results41 (by decide) rfl (by conv => lhs; whnf) ?_)
    exact ⟨by rw [hform]; rfl, e5⟩
  by_cases h8 : m.moved.length ≤ 60
  rotate_left
  · rw [decide_eq_false h8] at hform
    repeat' (first | refine a_row hrow ?_ | refine a_mov ?_ | refine a_asg ?_ | refine a_notb ?_ | refine a_fa ?_ | refine a_lenv ?_ | refine a_pick_t ?_ | refine a_pick_f ?_ | refine a_not ?_ | (refine o_nil (hK _ _ ?_); clear hK K) | refine wk_reg ?_ | refine wk_seq fun K hK => ?_ | (refine wk_skip (hK _ _ ?_); clear hK K) | refine wk_cond_t rfl ?_ | refine wk_cond_f rfl ?_ | (refine a_bin ?_ ?_ <;> intro _ <;> try (exfalso; omega)) | fail)
    refine wk_ret (retQ_tmp1 Tryz.results41 (by decide) rfl (by conv => lhs; whnf) ?_)
    exact ⟨by rw [hform]; rfl, e5⟩
  rw [decide_eq_true h8] at hform
  repeat' (first | refine a_row hrow ?_ | refine a_mov ?_ | refine a_asg ?_ | refine a_notb ?_ | refine a_fa ?_ | refine a_lenv ?_ | refine a_pick_t ?_ | refine a_pick_f ?_ | refine a_not ?_ | (refine o_nil (hK _ _ ?_); clear hK K) | refine wk_reg ?_ | refine wk_seq fun K hK => ?_ | (refine wk_skip (hK _ _ ?_); clear hK K) | refine wk_cond_t rfl ?_ | refine wk_cond_f rfl ?_ | (refine a_bin ?_ ?_ <;> intro _ <;> try (exfalso; omega)) | refine o_mf [] [.pointer (some ⟨b1, 0, none⟩)] rfl rfl rfl ?_ | fail)
  refine a_fn (rDiff_calls (hr.ext e5) hrl hrow rfl) ?_
  rintro v w6 ⟨rfl, e6⟩
  replace hrow := hrow.ext e6
  replace e6 := e5.trans e6
  generalize diffB Right.name (rightB m.opened) m.rights = n9 at *
  cases n9
  · repeat' (first | refine a_row hrow ?_ | refine a_mov ?_ | refine a_asg ?_ | refine a_notb ?_ | refine a_fa ?_ | refine a_lenv ?_ | refine a_pick_t ?_ | refine a_pick_f ?_ | refine a_not ?_ | (refine o_nil (hK _ _ ?_); clear hK K) | refine wk_reg ?_ | refine wk_seq fun K hK => ?_ | (refine wk_skip (hK _ _ ?_); clear hK K) | refine wk_cond_t rfl ?_ | refine wk_cond_f rfl ?_ | (refine a_bin ?_ ?_ <;> intro _ <;> try (exfalso; omega)) | fail)
    refine wk_ret (retQ_tmp1 Tryz.results41 (by decide) rfl (by conv => lhs; whnf) ?_)
    exact ⟨by rw [hform]; rfl, e6⟩
  repeat' (first | refine a_row hrow ?_ | refine a_mov ?_ | refine a_asg ?_ | refine a_notb ?_ | refine a_fa ?_ | refine a_lenv ?_ | refine a_pick_t ?_ | refine a_pick_f ?_ | refine a_not ?_ | (refine o_nil (hK _ _ ?_); clear hK K) | refine wk_reg ?_ | refine wk_seq fun K hK => ?_ | (refine wk_skip (hK _ _ ?_); clear hK K) | refine wk_cond_t rfl ?_ | refine wk_cond_f rfl ?_ | (refine a_bin ?_ ?_ <;> intro _ <;> try (exfalso; omega)) | fail)
  refine a_fn (limDiff_calls (hli.ext e6) hlil) ?_
  rintro v w7 ⟨rfl, e7⟩
  replace e7 := e6.trans e7
  repeat' (first | refine a_mov ?_ | refine a_asg ?_ | refine a_notb ?_ | refine a_fa ?_ | refine a_lenv ?_ | refine a_pick_t ?_ | refine a_pick_f ?_ | refine a_not ?_ | (refine o_nil (hK _ _ ?_); clear hK K) | refine wk_reg ?_ | refine wk_seq fun K hK => ?_ | (refine wk_skip (hK _ _ ?_); clear hK K) | refine wk_cond_t rfl ?_ | refine wk_cond_f rfl ?_ | (refine a_bin ?_ ?_ <;> intro _ <;> try (exfalso; omega)) | fail)
  refine wk_ret (retQ_tmp1 Tryz.results41 (by decide) rfl (by conv => lhs; whnf) ?_)
  exact ⟨by rw [hform]; rfl, e7⟩
/-! ### A procedure -/
structure PV where
  s : Value
  m : Value
def procL (p : Proc) (x : PV) : List Value := [str p.name, x.s, x.m]
theorem procL_len (p : Proc) (x : PV) : (procL p x).length = 3 := rfl
def ProcIn (w : World) (p : Proc) (x : PV) : Prop := (Sl w x.s 1 (p.stages.flatMap fun s => [str s]) ∧ p.stages.length ≤ 140737488351232) ∧ (Sl w x.m 2 (p.moves.flatMap moveL) ∧ p.moves.length ≤ 140737488351232)
theorem ProcIn.ext {w w' : World} {p : Proc} {x : PV} (h : ProcIn w p x) (e : Ext w w') : ProcIn w' p x := ⟨⟨h.1.1.ext e, h.1.2⟩, ⟨h.2.1.ext e, h.2.2⟩⟩
theorem mvDiff_calls {l : List IPair} {n : Nat} {hv : Value} {bn : Nat} {w : World} (h : Sl w hv 2 (l.flatMap moveL)) (hn : l.length ≤ 140737488351232) (hm : Row w bn 0 [.int .i64 (n : Int)]) : Calls Tryz.prog 93 #[hv, .func (.func 94) #[] #[], .func (.func 95) #[] #[.pointer (some ⟨bn, 0, none⟩)]] w (fun e w' => ∃ v, e = .returned v ∧ v = .bool (diffB (fun m => m) (moveB n) l) ∧ Ext w w') :=
  movesDiff_calls (key := fun m => m) (good := moveB n) moveL_len (fun _ _ => rfl) h hn (fun r hr w1 e1 => ⟨_, _, _, rfl, fun _ => rfl, moveGood_calls r n (hm.ext e1)⟩) (fun r hr w1 e1 => ⟨_, _, _, rfl, fun _ => rfl, moveKey_calls r w1⟩)
theorem txDiff_calls {l : List Tx} {hv : Value} {w : World} (h : Sl w hv 1 (l.flatMap fun s => [str s])) (hn : l.length ≤ 140737488351232) : Calls Tryz.prog 91 #[hv, .func (.func 92) #[] #[], .func (.func 82) #[] #[]] w (fun e w' => ∃ v, e = .returned v ∧ v = .bool (diffB (fun s => s) Nm l) ∧ Ext w w') :=
  textDiff_calls (key := fun s => s) (good := Nm) h hn (fun r hr w1 e1 => ⟨_, _, _, rfl, fun _ => rfl, name_calls r w1⟩) (fun r hr w1 e1 => ⟨_, _, _, rfl, fun _ => rfl, textKey_calls r w1⟩)
set_option maxHeartbeats 4000000 in
theorem mProper_calls {p : Proc} {x : PV} {w : World} (h : ProcIn w p x) : Calls Tryz.prog 47 #[.agg (procL p x).toArray] w (fun e w' => ∃ v, e = .returned v ∧ v = .bool (procB p) ∧ Ext w w') := by
  obtain ⟨⟨hs, hsl⟩, hm, hml⟩ := h
  have hp : procB p = (Nm p.name && decide (0 < p.stages.length) && diffB (fun s => s) Nm p.stages && diffB (fun m => m) (moveB p.stages.length) p.moves) := rfl
  obtain ⟨xs, xm⟩ := x
  obtain ⟨sa, sc, rfl, -⟩ := sl_each (f := fun s : Tx => [str s]) (fun _ => rfl) (by decide) hs
  refine calls_of Tryz.func47 rfl Tryz.ntmps47 rfl ?_
  repeat' (first | refine a_mov ?_ | refine a_asg ?_ | refine a_fa ?_ | refine a_lenv ?_ | refine a_pick_t ?_ | refine a_pick_f ?_ | refine a_not ?_ | (refine o_nil (hK _ _ ?_); clear hK K) | refine wk_reg ?_ | refine wk_seq fun K hK => ?_ | (refine a_bin ?_ ?_ <;> intro _ <;> try (exfalso; omega)) | (refine a_st hl ?_; clear hl; intro _ hl) | fail)
  refine o_box (LH.start w (fun _ => False)) (procL p ⟨.slice sa p.stages.length sc, xm⟩) (by rfl) rfl rfl ?_
  intro b1 w1 hb1 hl
  have hrow : Row w1 b1 0 [str p.name, .slice sa p.stages.length sc, xm] := hl.rowL (vs := procL p ⟨.slice sa p.stages.length sc, xm⟩) 0 0 3 rfl
  repeat' (first | refine a_row hrow ?_ | refine a_mov ?_ | refine a_asg ?_ | refine a_fa ?_ | refine a_lenv ?_ | refine a_pick_t ?_ | refine a_pick_f ?_ | refine a_not ?_ | (refine o_nil (hK _ _ ?_); clear hK K) | refine wk_reg ?_ | refine wk_seq fun K hK => ?_ | (refine a_bin ?_ ?_ <;> intro _ <;> try (exfalso; omega)) | (refine a_st hl ?_; clear hl; intro _ hl) | fail)
  refine o_alloc hl [.int .i64 0] rfl rfl ?_
  clear hl
  intro b3 w3 hb3 hl
  repeat' (first | refine a_mov ?_ | refine a_asg ?_ | refine a_fa ?_ | refine a_lenv ?_ | refine a_pick_t ?_ | refine a_pick_f ?_ | refine a_not ?_ | (refine a_bin ?_ ?_ <;> intro _ <;> try (exfalso; omega)) | (refine a_st hl ?_; clear hl; intro _ hl) | fail)
  have hrow : Row _ b1 0 [str p.name, .slice sa p.stages.length sc, xm] := hl.rowL (vs := procL p ⟨.slice sa p.stages.length sc, xm⟩) 1 0 3 rfl
  have hn : Row _ b3 0 [.int .i64 (p.stages.length : Int)] := hl.rowL 0 0 1 rfl
  have e4 : Ext w _ := hl.done
  clear hl
  rename_i w4
  repeat' (first | refine a_row hrow ?_ | refine a_mov ?_ | refine a_asg ?_ | refine a_fa ?_ | refine a_lenv ?_ | refine a_pick_t ?_ | refine a_pick_f ?_ | refine a_not ?_ | (refine o_nil (hK _ _ ?_); clear hK K) | refine wk_reg ?_ | refine wk_seq fun K hK => ?_ | (refine a_bin ?_ ?_ <;> intro _ <;> try (exfalso; omega)) | (refine a_st hl ?_; clear hl; intro _ hl) | fail)
  refine a_fn (name_calls p.name _) ?_
  rintro v w5 ⟨rfl, e5⟩
  replace hrow := hrow.ext e5
  replace hn := hn.ext e5
  replace e5 := e4.trans e5
  generalize Nm p.name = n1 at *
  cases n1
  · repeat' (first | refine a_row hrow ?_ | refine a_mov ?_ | refine a_asg ?_ | refine a_fa ?_ | refine a_lenv ?_ | refine a_pick_t ?_ | refine a_pick_f ?_ | refine a_not ?_ | (refine o_nil (hK _ _ ?_); clear hK K) | refine wk_reg ?_ | refine wk_seq fun K hK => ?_ | (refine a_bin ?_ ?_ <;> intro _ <;> try (exfalso; omega)) | (refine a_st hl ?_; clear hl; intro _ hl) | fail)
    refine wk_ret (retQ_tmp1 Tryz.results47 (by decide) rfl (by conv => lhs; whnf) ?_)
    exact ⟨by rw [hp]; rfl, e5⟩
  by_cases h2 : 0 < p.stages.length
  rotate_left
  · rw [decide_eq_false h2] at hp
    repeat' (first | refine a_row hrow ?_ | refine a_row hn ?_ | refine a_mov ?_ | refine a_asg ?_ | refine a_fa ?_ | refine a_lenv ?_ | refine a_pick_t ?_ | refine a_pick_f ?_ | refine a_not ?_ | (refine o_nil (hK _ _ ?_); clear hK K) | refine wk_reg ?_ | refine wk_seq fun K hK => ?_ | (refine a_bin ?_ ?_ <;> intro _ <;> try (exfalso; omega)) | (refine a_st hl ?_; clear hl; intro _ hl) | fail)
    refine wk_ret (retQ_tmp1 Tryz.results47 (by decide) rfl (by conv => lhs; whnf) ?_)
    exact ⟨by rw [hp]; rfl, e5⟩
  rw [decide_eq_true h2] at hp
  repeat' (first | refine a_row hrow ?_ | refine a_row hn ?_ | refine a_mov ?_ | refine a_asg ?_ | refine a_fa ?_ | refine a_lenv ?_ | refine a_pick_t ?_ | refine a_pick_f ?_ | refine a_not ?_ | (refine o_nil (hK _ _ ?_); clear hK K) | refine wk_reg ?_ | refine wk_seq fun K hK => ?_ | (refine a_bin ?_ ?_ <;> intro _ <;> try (exfalso; omega)) | (refine a_st hl ?_; clear hl; intro _ hl) | fail)
  refine a_fn (txDiff_calls (hs.ext e5) hsl) ?_
  rintro v w6 ⟨rfl, e6⟩
  replace hrow := hrow.ext e6
  replace hn := hn.ext e6
  replace e6 := e5.trans e6
  generalize diffB (fun s => s) Nm p.stages = n3 at *
  cases n3
  · repeat' (first | refine a_row hrow ?_ | refine a_row hn ?_ | refine a_mov ?_ | refine a_asg ?_ | refine a_fa ?_ | refine a_lenv ?_ | refine a_pick_t ?_ | refine a_pick_f ?_ | refine a_not ?_ | (refine o_nil (hK _ _ ?_); clear hK K) | refine wk_reg ?_ | refine wk_seq fun K hK => ?_ | (refine a_bin ?_ ?_ <;> intro _ <;> try (exfalso; omega)) | (refine a_st hl ?_; clear hl; intro _ hl) | fail)
    refine wk_ret (retQ_tmp1 Tryz.results47 (by decide) rfl (by conv => lhs; whnf) ?_)
    exact ⟨by rw [hp]; rfl, e6⟩
  repeat' (first | refine a_row hrow ?_ | refine a_mov ?_ | refine a_asg ?_ | refine a_fa ?_ | refine a_lenv ?_ | refine a_pick_t ?_ | refine a_pick_f ?_ | refine a_not ?_ | (refine o_nil (hK _ _ ?_); clear hK K) | refine wk_reg ?_ | refine wk_seq fun K hK => ?_ | (refine a_bin ?_ ?_ <;> intro _ <;> try (exfalso; omega)) | (refine a_st hl ?_; clear hl; intro _ hl) | refine o_mf [] [.pointer (some ⟨b3, 0, none⟩)] rfl rfl rfl ?_ | fail)
  refine a_fn (mvDiff_calls (hm.ext e6) hml hn) ?_
  rintro v w7 ⟨rfl, e7⟩
  replace e7 := e6.trans e7
  repeat' (first | refine a_mov ?_ | refine a_asg ?_ | refine a_fa ?_ | refine a_lenv ?_ | refine a_pick_t ?_ | refine a_pick_f ?_ | refine a_not ?_ | (refine o_nil (hK _ _ ?_); clear hK K) | refine wk_reg ?_ | refine wk_seq fun K hK => ?_ | (refine a_bin ?_ ?_ <;> intro _ <;> try (exfalso; omega)) | (refine a_st hl ?_; clear hl; intro _ hl) | fail)
  refine wk_ret (retQ_tmp1 Tryz.results47 (by decide) rfl (by conv => lhs; whnf) ?_)
  exact ⟨by rw [hp]; rfl, e7⟩
end Go.Proofs
