/-
  A network: Put, Cut.
-/
import Derived.Test.YthiiodbjmcafgaaNeE
set_option linter.unusedVariables false
set_option linter.unusedSimpArgs false
set_option linter.unnecessarySimpa false
set_option maxRecDepth 10000
namespace Go.Ne
open Go Go.Pd
/-- What a method leaves. -/
def After (X : Nat → Prop) (s' : Net) (p : Nat) (bl : List (Nat × Obj)) (w w' : World) : Prop := ∃ bl', LH w (Go.Pd.In bl) w' bl' ∧ NetR X s' p bl' w'
theorem After.same {X : Nat → Prop} {s : Net} {p : Nat} {bl : List (Nat × Obj)} {w w' : World} (h : NetR X s p bl w) (e : Ext w w') : After X s p bl w w' := ⟨bl, by
  obtain ⟨D, -, -, rfl, -, h4⟩ := h
  exact h4.ext e, h.ext e⟩
theorem After.mk {D' : NetB} {X : Nat → Prop} {s' : Net} {p : Nat} {bl : List (Nat × Obj)} {w w' : World} (hp : D'.p = p) (hl : LH w (Go.Pd.In bl) w' (D'.bl s')) (hok : NetOK D' s' w') (hX : D'.X = X := by rfl) : After X s' p bl w w' := ⟨_, hl, D', hX, hp, rfl, hok, hl.owned⟩
end Go.Ne
namespace Go.Proofs
open Go Go.Pd Go.Ne
attribute [local irreducible] OpsL W RetQ OpsQ OpsC

theorem addN_calls {n : Nat} {d : NodB} {x : Nod} {w : World} (t : Tx) (hl : Own w (nodBl n d x)) (hd : NodOK n d x) (hlen : x.texts.length ≤ 1000000) :
    Calls Try.prog 32 #[.pointer (some ⟨d.nb, 0, none⟩), str t] w (fun e w' => ∃ v, e = .returned v ∧ ∃ tv tacc hes hc, LH w (Go.Pd.In (nodBl n d x)) w' (nodBl n (withT d tv tacc hes hc) ⟨addT x.texts t, x.peer⟩) ∧ NodOK n (withT d tv tacc hes hc) ⟨addT x.texts t, x.peer⟩) := by
  refine (addA_calls t (Own.part hl) hd.t hd.h hlen).mono ?_
  rintro e w' ⟨v, rfl, tv, tacc, hes, hc, h1, h2, h3⟩
  exact ⟨v, rfl, tv, tacc, hes, hc, LH.focus hl h1, h2, h3, hd.g⟩

set_option maxHeartbeats 1000000 in
theorem put_calls {X : Nat → Prop} {s : Net} {p : Nat} {bl : List (Nat × Obj)} {w : World} (h : NetR X s p bl w) (i : Nat) (t : Tx) (hlen : ∀ a, (texts s a).length ≤ 1000000) (ht : t.length ≤ 9223372036854775807) :
    Calls Try.prog 13 #[.pointer (some ⟨p, 0, none⟩), .int .i64 (i : Int), str t] w (fun e w' => ∃ v, e = .returned v ∧ v = .int .i64 (putE s i t : Int) ∧ After X (put s i t) p bl w w') := by
  have hR := h
  obtain ⟨D, rfl, rfl, rfl, hok, hown⟩ := h
  obtain ⟨nb, no, nc, hnv, hptr⟩ := hok.ptr hown
  have hhd := NetOK.head hown
  rw [hnv] at hhd
  have hsame : ∀ {w'}, Ext w w' → putE s i t ≠ 0 → After D.X (put s i t) D.p (D.bl s) w w' := fun e hne => by
    have : put s i t = s := if_pos hne
    rw [this]; exact After.same hR e
  refine calls_of Try.func13 rfl Try.ntmps13 rfl ?_
  refine wk_seq fun K hK => ?_
  refine wk_reg ?_
  repeat' (first | refine a_mov ?_ | refine a_asg ?_ | refine a_binN ?_ | refine a_notd ?_ | refine a_notb ?_ | refine a_nilc ?_ | refine a_fa ?_ | refine a_ext ?_ | refine a_lenv ?_ | refine a_lens ?_ | refine a_pick_t ?_ | refine a_pick_f ?_ | refine a_not ?_ | refine a_nilf ?_ | (refine a_bin ?_ ?_ <;> intro _ <;> try (exfalso; omega)) | refine a_ld hl ?_ | (refine a_st hl ?_; clear hl; intro _ hl) | refine a_ix (fun _ => ?_) | fail)
  refine o_nil (hK _ _ ?_)
  clear hK K
  refine wk_seq fun K hK => ?_
  refine wk_cut [] (fun _ : Unit => [(0, .pointer (some ⟨D.p, 0, none⟩)), (1, .int .i64 (i : Int)), (2, str t)]) (fun _ w' => putE s i t = 0 ∧ Ext w w') ?_ ?_
  · clear hK K
    repeat' (first | refine a_mov ?_ | refine a_asg ?_ | refine a_binN ?_ | refine a_notd ?_ | refine a_notb ?_ | refine a_nilc ?_ | refine a_fa ?_ | refine a_ext ?_ | refine a_lenv ?_ | refine a_lens ?_ | refine a_pick_t ?_ | refine a_pick_f ?_ | refine a_not ?_ | refine a_nilf ?_ | (refine o_nil (hK _ _ ?_); clear hK K) | refine wk_reg ?_ | refine wk_seq fun K hK => ?_ | (refine wk_skip (hK _ _ ?_); clear hK K) | (refine wk_label (hK _ _ ?_); clear hK K) | refine wk_scope ?_ | refine wk_block ?_ | refine wk_cond_t rfl ?_ | refine wk_cond_f rfl ?_ | (refine wk_exit ?_; (repeat (refine blockK_other rfl ?_)); refine blockK_same ?_; try ((repeat ((fail_if_success (refine hK _ _ ?_)); clear hK K)); refine hK _ _ ?_; clear hK K)) | (refine a_bin ?_ ?_ <;> intro _ <;> try (exfalso; omega)) | refine a_ld hl ?_ | (refine a_st hl ?_; clear hl; intro _ hl) | refine a_ix (fun _ => ?_) | fail)
    refine o_buildSlice (LH.start w (fun _ => False)) [.int .i64 (i : Int)] rfl rfl (by kernel_rfl) ?_
    intro b1 w1 hb1 hl1
    refine a_fn (there_calls (p := D.p) (l := [i]) (Sl.mk (b := b1) (o := 0) (m := 1) (c := 1) rfl (Nat.le_refl _) (hl1.rowL (vs := [.int .i64 (i : Int)]) 0 0 1 rfl)) (by simp) (fun j v hj => (hhd.ext hl1.done) j v (by cases j with | zero => exact hj | succ j => simp at hj))) ?_
    rintro _ w2 ⟨rfl, he2⟩
    have hx2 : Ext w w2 := hl1.done.trans he2
    by_cases hi : i < s.n
    · have hall : [i].all (fun i => decide (i < s.n)) = true := by simp [hi]
      rw [hall]
      repeat' (first | refine a_mov ?_ | refine a_asg ?_ | refine a_binN ?_ | refine a_notd ?_ | refine a_notb ?_ | refine a_nilc ?_ | refine a_fa ?_ | refine a_ext ?_ | refine a_lenv ?_ | refine a_lens ?_ | refine a_pick_t ?_ | refine a_pick_f ?_ | refine a_not ?_ | refine a_nilf ?_ | (refine o_nil (hK _ _ ?_); clear hK K) | refine wk_reg ?_ | refine wk_seq fun K hK => ?_ | (refine wk_skip (hK _ _ ?_); clear hK K) | (refine wk_label (hK _ _ ?_); clear hK K) | refine wk_scope ?_ | refine wk_block ?_ | refine wk_cond_t rfl ?_ | refine wk_cond_f rfl ?_ | (refine wk_exit ?_; (repeat (refine blockK_other rfl ?_)); refine blockK_same ?_; try ((repeat ((fail_if_success (refine hK _ _ ?_)); clear hK K)); refine hK _ _ ?_; clear hK K)) | (refine a_bin ?_ ?_ <;> intro _ <;> try (exfalso; omega)) | refine a_ld hl ?_ | (refine a_st hl ?_; clear hl; intro _ hl) | refine a_ix (fun _ => ?_) | fail)
      · -- too long
        refine wk_ret (retQ_tmp1 Try.results13 (by decide) rfl (by conv => lhs; whnf) ?_)
        have hE : putE s i t = 2 := by unfold putE; rw [if_neg (by omega), if_pos (by omega)]
        exact ⟨by rw [hE]; rfl, hsame hx2 (by rw [hE]; decide)⟩
      · have hl2 := hown.ext hx2
        repeat' (first | refine a_mov ?_ | refine a_asg ?_ | refine a_binN ?_ | refine a_notd ?_ | refine a_notb ?_ | refine a_nilc ?_ | refine a_fa ?_ | refine a_ext ?_ | refine a_lenv ?_ | refine a_lens ?_ | refine a_pick_t ?_ | refine a_pick_f ?_ | refine a_not ?_ | refine a_nilf ?_ | (refine o_nil (hK _ _ ?_); clear hK K) | refine wk_reg ?_ | refine wk_seq fun K hK => ?_ | (refine wk_skip (hK _ _ ?_); clear hK K) | (refine wk_label (hK _ _ ?_); clear hK K) | refine wk_scope ?_ | refine wk_block ?_ | refine wk_cond_t rfl ?_ | refine wk_cond_f rfl ?_ | (refine wk_exit ?_; (repeat (refine blockK_other rfl ?_)); refine blockK_same ?_; try ((repeat ((fail_if_success (refine hK _ _ ?_)); clear hK K)); refine hK _ _ ?_; clear hK K)) | (refine a_bin ?_ ?_ <;> intro _ <;> try (exfalso; omega)) | refine a_ld hl ?_ | (refine a_st hl ?_; clear hl; intro _ hl) | refine a_ix (fun _ => ?_) | refine a_row (hhd.ext hx2) ?_ | fail)
        refine o_lookup t hok.am (hl2.get 3 rfl) (key_str rfl) rfl rfl rfl rfl rfl ?_
        rw [boolM_get]
        by_cases hin : t ∈ s.all
        · rw [if_pos hin]
          repeat' (first | refine a_mov ?_ | refine a_asg ?_ | refine a_binN ?_ | refine a_notd ?_ | refine a_notb ?_ | refine a_nilc ?_ | refine a_fa ?_ | refine a_ext ?_ | refine a_lenv ?_ | refine a_lens ?_ | refine a_pick_t ?_ | refine a_pick_f ?_ | refine a_not ?_ | refine a_nilf ?_ | (refine o_nil (hK _ _ ?_); clear hK K) | refine wk_reg ?_ | refine wk_seq fun K hK => ?_ | (refine wk_skip (hK _ _ ?_); clear hK K) | (refine wk_label (hK _ _ ?_); clear hK K) | refine wk_scope ?_ | refine wk_block ?_ | refine wk_cond_t rfl ?_ | refine wk_cond_f rfl ?_ | (refine wk_exit ?_; (repeat (refine blockK_other rfl ?_)); refine blockK_same ?_; try ((repeat ((fail_if_success (refine hK _ _ ?_)); clear hK K)); refine hK _ _ ?_; clear hK K)) | (refine a_bin ?_ ?_ <;> intro _ <;> try (exfalso; omega)) | refine a_ld hl ?_ | (refine a_st hl ?_; clear hl; intro _ hl) | refine a_ix (fun _ => ?_) | fail)
          refine wk_skip ⟨(), ⟨rfl, rfl, rfl, trivial⟩, rfl, ?_, hx2⟩
          unfold putE
          rw [if_neg (by omega), if_neg (by omega), if_neg (fun h => h.1 hin)]
        · rw [if_neg hin]
          repeat' (first | refine a_mov ?_ | refine a_asg ?_ | refine a_binN ?_ | refine a_notd ?_ | refine a_notb ?_ | refine a_nilc ?_ | refine a_fa ?_ | refine a_ext ?_ | refine a_lenv ?_ | refine a_lens ?_ | refine a_pick_t ?_ | refine a_pick_f ?_ | refine a_not ?_ | refine a_nilf ?_ | (refine o_nil (hK _ _ ?_); clear hK K) | refine wk_reg ?_ | refine wk_seq fun K hK => ?_ | (refine wk_skip (hK _ _ ?_); clear hK K) | (refine wk_label (hK _ _ ?_); clear hK K) | refine wk_scope ?_ | refine wk_block ?_ | refine wk_cond_t rfl ?_ | refine wk_cond_f rfl ?_ | (refine wk_exit ?_; (repeat (refine blockK_other rfl ?_)); refine blockK_same ?_; try ((repeat ((fail_if_success (refine hK _ _ ?_)); clear hK K)); refine hK _ _ ?_; clear hK K)) | (refine a_bin ?_ ?_ <;> intro _ <;> try (exfalso; omega)) | refine a_ld hl ?_ | (refine a_st hl ?_; clear hl; intro _ hl) | refine a_ix (fun _ => ?_) | refine a_row (hhd.ext hx2) ?_ | fail)
          refine o_lenm hok.am (hl2.get 3 rfl) rfl rfl rfl ?_
          rw [List.length_map]
          repeat' (first | refine a_mov ?_ | refine a_asg ?_ | refine a_binN ?_ | refine a_notd ?_ | refine a_notb ?_ | refine a_nilc ?_ | refine a_fa ?_ | refine a_ext ?_ | refine a_lenv ?_ | refine a_lens ?_ | refine a_pick_t ?_ | refine a_pick_f ?_ | refine a_not ?_ | refine a_nilf ?_ | (refine o_nil (hK _ _ ?_); clear hK K) | refine wk_reg ?_ | refine wk_seq fun K hK => ?_ | (refine wk_skip (hK _ _ ?_); clear hK K) | (refine wk_label (hK _ _ ?_); clear hK K) | refine wk_scope ?_ | refine wk_block ?_ | refine wk_cond_t rfl ?_ | refine wk_cond_f rfl ?_ | (refine wk_exit ?_; (repeat (refine blockK_other rfl ?_)); refine blockK_same ?_; try ((repeat ((fail_if_success (refine hK _ _ ?_)); clear hK K)); refine hK _ _ ?_; clear hK K)) | (refine a_bin ?_ ?_ <;> intro _ <;> try (exfalso; omega)) | refine a_ld hl ?_ | (refine a_st hl ?_; clear hl; intro _ hl) | refine a_ix (fun _ => ?_) | fail)
          · refine wk_ret (retQ_tmp1 Try.results13 (by decide) rfl (by conv => lhs; whnf) ?_)
            have hE : putE s i t = 27 := by unfold putE; rw [if_neg (by omega), if_neg (by omega), if_pos ⟨hin, by omega⟩]
            exact ⟨by rw [hE]; rfl, hsame hx2 (by rw [hE]; decide)⟩
          · refine wk_skip ⟨(), ⟨rfl, rfl, rfl, trivial⟩, rfl, ?_, hx2⟩
            unfold putE
            rw [if_neg (by omega), if_neg (by omega), if_neg (fun h => by have := h.2; omega)]
    · have hall : [i].all (fun i => decide (i < s.n)) = false := by simp [hi]
      rw [hall]
      repeat' (first | refine a_mov ?_ | refine a_asg ?_ | refine a_binN ?_ | refine a_notd ?_ | refine a_notb ?_ | refine a_nilc ?_ | refine a_fa ?_ | refine a_ext ?_ | refine a_lenv ?_ | refine a_lens ?_ | refine a_pick_t ?_ | refine a_pick_f ?_ | refine a_not ?_ | refine a_nilf ?_ | (refine o_nil (hK _ _ ?_); clear hK K) | refine wk_reg ?_ | refine wk_seq fun K hK => ?_ | (refine wk_skip (hK _ _ ?_); clear hK K) | (refine wk_label (hK _ _ ?_); clear hK K) | refine wk_scope ?_ | refine wk_block ?_ | refine wk_cond_t rfl ?_ | refine wk_cond_f rfl ?_ | (refine wk_exit ?_; (repeat (refine blockK_other rfl ?_)); refine blockK_same ?_; try ((repeat ((fail_if_success (refine hK _ _ ?_)); clear hK K)); refine hK _ _ ?_; clear hK K)) | (refine a_bin ?_ ?_ <;> intro _ <;> try (exfalso; omega)) | refine a_ld hl ?_ | (refine a_st hl ?_; clear hl; intro _ hl) | refine a_ix (fun _ => ?_) | fail)
      refine wk_ret (retQ_tmp1 Try.results13 (by decide) rfl (by conv => lhs; whnf) ?_)
      have hE : putE s i t = 1 := if_pos (by omega)
      exact ⟨by rw [hE]; rfl, hsame hx2 (by rw [hE]; decide)⟩
  · rintro _ q w2 ⟨hE, hx2⟩
    refine hK _ _ ?_
    clear hK K
    have hi : i < s.n := by
      unfold putE at hE
      by_cases h : s.n ≤ i
      · rw [if_pos h] at hE; cases hE
      · omega
    have hput : put s i t = { s with all := addT s.all t, node := upd s.node i ⟨addT (s.node i).texts t, (s.node i).peer⟩ } := if_neg (by rw [hE]; exact fun h => h rfl)
    have hl2 := hown.ext hx2
    repeat' (first | refine a_mov ?_ | refine a_asg ?_ | refine a_binN ?_ | refine a_notd ?_ | refine a_notb ?_ | refine a_nilc ?_ | refine a_fa ?_ | refine a_ext ?_ | refine a_lenv ?_ | refine a_lens ?_ | refine a_pick_t ?_ | refine a_pick_f ?_ | refine a_not ?_ | refine a_nilf ?_ | (refine o_nil (hK _ _ ?_); clear hK K) | refine wk_reg ?_ | refine wk_seq fun K hK => ?_ | (refine wk_skip (hK _ _ ?_); clear hK K) | (refine wk_label (hK _ _ ?_); clear hK K) | refine wk_scope ?_ | refine wk_block ?_ | refine wk_cond_t rfl ?_ | refine wk_cond_f rfl ?_ | (refine wk_exit ?_; (repeat (refine blockK_other rfl ?_)); refine blockK_same ?_; try ((repeat ((fail_if_success (refine hK _ _ ?_)); clear hK K)); refine hK _ _ ?_; clear hK K)) | (refine a_bin ?_ ?_ <;> intro _ <;> try (exfalso; omega)) | refine a_ld hl ?_ | (refine a_st hl ?_; clear hl; intro _ hl) | refine a_ix (fun _ => ?_) | refine a_row (hhd.ext hx2) ?_ | fail)
    refine o_mapUpdate (v := .bool true) t hl2 3 rfl hok.am (key_str rfl) rfl rfl rfl rfl rfl ?_
    intro w3 es3 c3 hm3 hl3
    rw [boolM_ins] at hm3
    let D1 : NetB := { D with aes := es3, ac := c3 }
    let s1 : Net := { s with all := addT s.all t }
    have hl3 : LH w (Go.Pd.In (D.bl s)) w3 (D1.bl s1) := hl3
    have hok2 := hok.ext hx2
    have hok3 : NetOK D1 s1 w3 := ⟨hok.np, hok.nv, hok.nd, hok.qm, hok.qg, fun a b ha hb => (hok.qu a b ha hb).step hl3, fun b hb => Nat.lt_of_lt_of_le (hok.xs b hb) hl3.upd.size, hok.cm, hok.ck, hm3⟩
    have hno : Own w3 (nodBl s.n (D.nd i) (s.node i)) := NetOK.nodOwn (D := D1) (s := s1) hl3 hi
    obtain ⟨nb3, no3, nc3, hnv3, hptr3⟩ := hok3.ptr hl3
    have hhd3 := NetOK.head hl3
    have hnv3 : D.nv = .slice (some ⟨nb3, no3, none⟩) s.n nc3 := hnv3
    rw [show D1.nv = D.nv from rfl, hnv3] at hhd3
    repeat' (first | refine a_mov ?_ | refine a_asg ?_ | refine a_binN ?_ | refine a_notd ?_ | refine a_notb ?_ | refine a_nilc ?_ | refine a_fa ?_ | refine a_ext ?_ | refine a_lenv ?_ | refine a_lens ?_ | refine a_pick_t ?_ | refine a_pick_f ?_ | refine a_not ?_ | refine a_nilf ?_ | (refine o_nil (hK _ _ ?_); clear hK K) | refine wk_reg ?_ | refine wk_seq fun K hK => ?_ | (refine wk_skip (hK _ _ ?_); clear hK K) | (refine wk_label (hK _ _ ?_); clear hK K) | refine wk_scope ?_ | refine wk_block ?_ | refine wk_cond_t rfl ?_ | refine wk_cond_f rfl ?_ | (refine wk_exit ?_; (repeat (refine blockK_other rfl ?_)); refine blockK_same ?_; try ((repeat ((fail_if_success (refine hK _ _ ?_)); clear hK K)); refine hK _ _ ?_; clear hK K)) | (refine a_bin ?_ ?_ <;> intro _ <;> try (exfalso; omega)) | refine a_ld hl ?_ | (refine a_st hl ?_; clear hl; intro _ hl) | refine a_ix (fun _ => ?_) | refine a_row hhd3 ?_ | refine a_idx (c := 1) i rfl ?_ | refine a_row (hptr3 i hi) ?_ | fail)
    refine a_fn (addN_calls t hno (hok.nd i hi) (hlen i)) ?_
    rintro v4 w4 ⟨tv, tacc, hes, hc, hl4, hnd4⟩
    obtain ⟨hl5, hok5⟩ := hok3.node hl3 hi hl4 hnd4 rfl
    repeat' (first | refine a_mov ?_ | refine a_asg ?_ | refine a_binN ?_ | refine a_notd ?_ | refine a_notb ?_ | refine a_nilc ?_ | refine a_fa ?_ | refine a_ext ?_ | refine a_lenv ?_ | refine a_lens ?_ | refine a_pick_t ?_ | refine a_pick_f ?_ | refine a_not ?_ | refine a_nilf ?_ | (refine o_nil (hK _ _ ?_); clear hK K) | refine wk_reg ?_ | refine wk_seq fun K hK => ?_ | (refine wk_skip (hK _ _ ?_); clear hK K) | (refine wk_label (hK _ _ ?_); clear hK K) | refine wk_scope ?_ | refine wk_block ?_ | refine wk_cond_t rfl ?_ | refine wk_cond_f rfl ?_ | (refine wk_exit ?_; (repeat (refine blockK_other rfl ?_)); refine blockK_same ?_; try ((repeat ((fail_if_success (refine hK _ _ ?_)); clear hK K)); refine hK _ _ ?_; clear hK K)) | (refine a_bin ?_ ?_ <;> intro _ <;> try (exfalso; omega)) | refine a_ld hl ?_ | (refine a_st hl ?_; clear hl; intro _ hl) | refine a_ix (fun _ => ?_) | fail)
    refine wk_ret (retQ_tmp1 Try.results13 (by decide) rfl (by conv => lhs; whnf) ?_)
    refine ⟨by rw [hE]; rfl, ?_⟩
    rw [hput]
    exact After.mk (by rfl) hl5 hok5
end Go.Proofs
