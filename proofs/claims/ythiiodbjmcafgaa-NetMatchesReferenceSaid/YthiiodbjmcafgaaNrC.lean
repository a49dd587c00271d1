/-
  The reference's network: single cells written; Cut, Put.
-/
import Derived.Test.YthiiodbjmcafgaaNrB
set_option linter.unusedVariables false
set_option linter.unusedSimpArgs false
set_option linter.unnecessarySimpa false
set_option maxRecDepth 10000
namespace Go.Ne
open Go Go.Pd
theorem flt_put1 {n : Nat} {f g : Nat → Value} {v : Value} {j : Nat} (hj : j < n) (hg : g j = v) (ho : ∀ i, i < n → i ≠ j → g i = f i) : putL (flt n (fun j => [f j]) ++ []) (0 + j * 1) [v] = flt n (fun j => [g j]) ++ [] := by
  rw [flt_put (f := fun j => [f j]) (c := 1) (fun _ => rfl) (Nat.le_refl _) [] hj]
  congr 1
  refine flt_congr fun i hi => ?_
  by_cases e : i = j
  · subst e; rw [upd_same, hg]; rfl
  · rw [upd_ne _ _ e, ho i hi e]
section
variable {R : RefB} {n : Nat} {w w' : World} {i j : Nat}
theorem RefB.setHd (x : Nat) (hi : i < n) (hj : j < n) (h2 : LH w (Go.Pd.In [R.row n i 0]) w' [(R.hb i, .cells (putL (flt n (fun j => [Value.int .i64 ((R.hd i j : Nat) : Int)]) ++ []) (0 + j * 1) [Value.int .i64 ((x : Nat) : Int)]).toArray 3 (0, 0))]) : ∀ {w0 : World} {M : Nat → Prop}, LH w0 M w (R.bl n) → LH w0 M w' (RefB.bl { R with hd := upd2 R.hd i j x } n) := by
  intro w0 M h
  refine RefB.stepRow (R := R) (R' := { R with hd := upd2 R.hd i j x }) hi (kd := 0) (by omega) rfl (fun t _ => rfl) (fun i' kd' _ hk' hne => ?_) ?_ h
  · match kd', hk' with
    | 0, _ =>
      have hne' : i' ≠ i := fun e => hne ⟨e, rfl⟩
      have : (fun j' => [Value.int .i64 ((upd2 R.hd i j x i' j' : Nat) : Int)]) = (fun j' => [Value.int .i64 ((R.hd i' j' : Nat) : Int)]) := by
        funext j'
        rw [upd2_ne _ _ fun e => hne' e.1]
      show (R.hb i', Obj.cells (flt n (fun j' => [Value.int .i64 ((upd2 R.hd i j x i' j' : Nat) : Int)]) ++ []).toArray 3 (0, 0)) = _
      rw [this]; rfl
    | 1, _ => exact rfl
    | 2, _ => exact rfl
    | 3, _ => exact rfl
    | 4, _ => exact rfl
  · have : [RefB.row { R with hd := upd2 R.hd i j x } n i 0] = [(R.hb i, Obj.cells (putL (flt n (fun j => [Value.int .i64 ((R.hd i j : Nat) : Int)]) ++ []) (0 + j * 1) [Value.int .i64 ((x : Nat) : Int)]).toArray 3 (0, 0))] := by
      rw [flt_put1 (g := fun j' => Value.int .i64 ((upd2 R.hd i j x i j' : Nat) : Int)) hj (by rw [upd2_same]) (fun i' _ e => by rw [upd2_ne _ _ fun h => e h.2])]
      rfl
    rw [this]; exact h2
theorem RefB.setKn (x : Nat) (hi : i < n) (hj : j < n) (h2 : LH w (Go.Pd.In [R.row n i 1]) w' [(R.kb i, .cells (putL (flt n (fun j => [Value.int .i64 ((R.kn i j : Nat) : Int)]) ++ []) (0 + j * 1) [Value.int .i64 ((x : Nat) : Int)]).toArray 3 (0, 0))]) : ∀ {w0 : World} {M : Nat → Prop}, LH w0 M w (R.bl n) → LH w0 M w' (RefB.bl { R with kn := upd2 R.kn i j x } n) := by
  intro w0 M h
  refine RefB.stepRow (R := R) (R' := { R with kn := upd2 R.kn i j x }) hi (kd := 1) (by omega) rfl (fun t _ => rfl) (fun i' kd' _ hk' hne => ?_) ?_ h
  · match kd', hk' with
    | 0, _ => exact rfl
    | 1, _ =>
      have hne' : i' ≠ i := fun e => hne ⟨e, rfl⟩
      have : (fun j' => [Value.int .i64 ((upd2 R.kn i j x i' j' : Nat) : Int)]) = (fun j' => [Value.int .i64 ((R.kn i' j' : Nat) : Int)]) := by
        funext j'
        rw [upd2_ne _ _ fun e => hne' e.1]
      show (R.kb i', Obj.cells (flt n (fun j' => [Value.int .i64 ((upd2 R.kn i j x i' j' : Nat) : Int)]) ++ []).toArray 3 (0, 0)) = _
      rw [this]; rfl
    | 2, _ => exact rfl
    | 3, _ => exact rfl
    | 4, _ => exact rfl
  · have : [RefB.row { R with kn := upd2 R.kn i j x } n i 1] = [(R.kb i, Obj.cells (putL (flt n (fun j => [Value.int .i64 ((R.kn i j : Nat) : Int)]) ++ []) (0 + j * 1) [Value.int .i64 ((x : Nat) : Int)]).toArray 3 (0, 0))] := by
      rw [flt_put1 (g := fun j' => Value.int .i64 ((upd2 R.kn i j x i j' : Nat) : Int)) hj (by rw [upd2_same]) (fun i' _ e => by rw [upd2_ne _ _ fun h => e h.2])]
      rfl
    rw [this]; exact h2
theorem RefB.setGv (x : Value) (hi : i < n) (hj : j < n) (h2 : LH w (Go.Pd.In [R.row n i 2]) w' [(R.gb i, .cells (putL (flt n (fun j => [R.gv i j]) ++ []) (0 + j * 1) [x]).toArray 39 (0, 0))]) : ∀ {w0 : World} {M : Nat → Prop}, LH w0 M w (R.bl n) → LH w0 M w' (RefB.bl { R with gv := upd2 R.gv i j x } n) := by
  intro w0 M h
  refine RefB.stepRow (R := R) (R' := { R with gv := upd2 R.gv i j x }) hi (kd := 2) (by omega) rfl (fun t _ => rfl) (fun i' kd' _ hk' hne => ?_) ?_ h
  · match kd', hk' with
    | 0, _ => exact rfl
    | 1, _ => exact rfl
    | 2, _ =>
      have hne' : i' ≠ i := fun e => hne ⟨e, rfl⟩
      have : (fun j' => [upd2 R.gv i j x i' j']) = (fun j' => [R.gv i' j']) := by
        funext j'
        rw [upd2_ne _ _ fun e => hne' e.1]
      show (R.gb i', Obj.cells (flt n (fun j' => [upd2 R.gv i j x i' j']) ++ []).toArray 39 (0, 0)) = _
      rw [this]; rfl
    | 3, _ => exact rfl
    | 4, _ => exact rfl
  · have : [RefB.row { R with gv := upd2 R.gv i j x } n i 2] = [(R.gb i, Obj.cells (putL (flt n (fun j => [R.gv i j]) ++ []) (0 + j * 1) [x]).toArray 39 (0, 0))] := by
      rw [flt_put1 (g := fun j' => upd2 R.gv i j x i j') hj (by rw [upd2_same]) (fun i' _ e => by rw [upd2_ne _ _ fun h => e h.2])]
      rfl
    rw [this]; exact h2
theorem RefB.setQv (x : Value) (hi : i < n) (hj : j < n) (h2 : LH w (Go.Pd.In [R.row n i 3]) w' [(R.qi i, .cells (putL (flt n (fun j => [R.qv i j]) ++ []) (0 + j * 1) [x]).toArray 85 (0, 0))]) : ∀ {w0 : World} {M : Nat → Prop}, LH w0 M w (R.bl n) → LH w0 M w' (RefB.bl { R with qv := upd2 R.qv i j x } n) := by
  intro w0 M h
  refine RefB.stepRow (R := R) (R' := { R with qv := upd2 R.qv i j x }) hi (kd := 3) (by omega) rfl (fun t _ => rfl) (fun i' kd' _ hk' hne => ?_) ?_ h
  · match kd', hk' with
    | 0, _ => exact rfl
    | 1, _ => exact rfl
    | 2, _ => exact rfl
    | 3, _ =>
      have hne' : i' ≠ i := fun e => hne ⟨e, rfl⟩
      have : (fun j' => [upd2 R.qv i j x i' j']) = (fun j' => [R.qv i' j']) := by
        funext j'
        rw [upd2_ne _ _ fun e => hne' e.1]
      show (R.qi i', Obj.cells (flt n (fun j' => [upd2 R.qv i j x i' j']) ++ []).toArray 85 (0, 0)) = _
      rw [this]; rfl
    | 4, _ => exact rfl
  · have : [RefB.row { R with qv := upd2 R.qv i j x } n i 3] = [(R.qi i, Obj.cells (putL (flt n (fun j => [R.qv i j]) ++ []) (0 + j * 1) [x]).toArray 85 (0, 0))] := by
      rw [flt_put1 (g := fun j' => upd2 R.qv i j x i j') hj (by rw [upd2_same]) (fun i' _ e => by rw [upd2_ne _ _ fun h => e h.2])]
      rfl
    rw [this]; exact h2
theorem RefB.setCo (x : Bool) (hi : i < n) (hj : j < n) (h2 : LH w (Go.Pd.In [R.row n i 4]) w' [(R.oi i, .cells (putL (flt n (fun j => [Value.bool (R.co i j)]) ++ []) (0 + j * 1) [.bool (x)]).toArray 4 (0, 0))]) : ∀ {w0 : World} {M : Nat → Prop}, LH w0 M w (R.bl n) → LH w0 M w' (RefB.bl { R with co := upd2 R.co i j x } n) := by
  intro w0 M h
  refine RefB.stepRow (R := R) (R' := { R with co := upd2 R.co i j x }) hi (kd := 4) (by omega) rfl (fun t _ => rfl) (fun i' kd' _ hk' hne => ?_) ?_ h
  · match kd', hk' with
    | 0, _ => exact rfl
    | 1, _ => exact rfl
    | 2, _ => exact rfl
    | 3, _ => exact rfl
    | 4, _ =>
      have hne' : i' ≠ i := fun e => hne ⟨e, rfl⟩
      have : (fun j' => [Value.bool (upd2 R.co i j x i' j')]) = (fun j' => [Value.bool (R.co i' j')]) := by
        funext j'
        rw [upd2_ne _ _ fun e => hne' e.1]
      show (R.oi i', Obj.cells (flt n (fun j' => [Value.bool (upd2 R.co i j x i' j')]) ++ []).toArray 4 (0, 0)) = _
      rw [this]; rfl
  · have : [RefB.row { R with co := upd2 R.co i j x } n i 4] = [(R.oi i, Obj.cells (putL (flt n (fun j => [Value.bool (R.co i j)]) ++ []) (0 + j * 1) [.bool (x)]).toArray 4 (0, 0))] := by
      rw [flt_put1 (g := fun j' => Value.bool (upd2 R.co i j x i j')) hj (by rw [upd2_same]) (fun i' _ e => by rw [upd2_ne _ _ fun h => e h.2])]
      rfl
    rw [this]; exact h2
/-- A node's texts. -/
theorem RefB.setTv (v : Value) (hi : i < n) (h2 : LH w (Go.Pd.In [R.top n 1]) w' [(R.nb, .cells (putL (flt n (R.nodeC n) ++ R.nj) (i * 4) [v]).toArray 74 (0, 0))]) : ∀ {w0 : World} {M : Nat → Prop}, LH w0 M w (R.bl n) → LH w0 M w' (RefB.bl { R with tv := upd R.tv i v } n) := by
  intro w0 M h
  refine RefB.stepTop (R := R) (R' := { R with tv := upd R.tv i v }) (t := 1) (by omega) rfl (fun t ht hne => ?_) (fun i' kd' _ hk' => rfl) ?_ h
  · match t, ht with
    | 0, _ => rfl
    | 1, _ => exact absurd rfl hne
    | 2, _ => rfl
    | 3, _ => rfl
  · have hp := flt_put (n := n) (f := R.nodeC n) (c := 4) (fun _ => rfl) (us := [v]) (by simp) R.nj hi
    rw [Nat.zero_add] at hp
    have : [RefB.top { R with tv := upd R.tv i v } n 1] = [(R.nb, Obj.cells (putL (flt n (R.nodeC n) ++ R.nj) (i * 4) [v]).toArray 74 (0, 0))] := by
      rw [hp]
      show [(R.nb, Obj.cells (flt n (fun i' => [upd R.tv i v i', arrV (R.hb i') n n, arrV (R.kb i') n n, arrV (R.gb i') n n]) ++ R.nj).toArray 74 (0, 0))] = _
      congr 4
      congr 1
      refine flt_congr fun i' _ => ?_
      by_cases e : i' = i
      · subst e; rw [upd_same, upd_same]; rfl
      · rw [upd_ne _ _ e, upd_ne _ _ e]; rfl
    rw [this]; exact h2
/-- The list of all texts. -/
theorem RefB.setAv (v : Value) (acc : List (Nat × Obj)) (h2 : LH w (Go.Pd.In [R.top n 0]) w' [(R.p, .cells [arrV R.nb n R.nc, arrV R.qb n R.qc, arrV R.ob n R.oc, v].toArray 71 (0, 0))]) : ∀ {w0 : World} {M : Nat → Prop}, LH w0 M w ((idxN n).map (R.F n) ++ acc) → LH w0 M w' (RefB.bl { R with av := v, aacc := acc } n) := by
  intro w0 M h
  refine RefB.stepTop (R := { R with aacc := acc }) (R' := { R with av := v, aacc := acc }) (t := 0) (by omega) rfl (fun t ht hne => ?_) (fun i' kd' _ hk' => rfl) h2 h
  match t, ht with
  | 0, _ => exact absurd rfl hne
  | 1, _ => rfl
  | 2, _ => rfl
  | 3, _ => rfl
end
theorem cutA_upd (s : Net) (a b : Nat) (off : Bool) (hp : pair s a b = true) (x y : Nat) : cutA (setCut s a b off) x y = upd2 (upd2 (fun i j => cutA s i j) a b off) b a off x y := by
  unfold setCut
  rw [if_pos hp]
  show upd2 s.cut (min a b) (max a b) off (min x y) (max x y) = _
  have hab := (of_decide_eq_true hp).2.2
  unfold upd2 cutA
  by_cases h : x = b ∧ y = a
  · rw [if_pos h, if_pos (by omega)]
  · rw [if_neg h]
    by_cases h' : x = a ∧ y = b
    · rw [if_pos h', if_pos (by omega)]
    · rw [if_neg h', if_neg (by omega)]
end Go.Ne
namespace Go.Proofs
open Go Go.Pd Go.Ne
attribute [local irreducible] OpsL W RetQ OpsQ OpsC
set_option maxHeartbeats 1000000 in
theorem cutR_calls {Y : Nat → Prop} {s : Net} {p : Nat} {bl : List (Nat × Obj)} {w : World} (h : RefR Y s p bl w) (a b : Nat) (off : Bool) :
    Calls Try.prog 20 #[.pointer (some ⟨p, 0, none⟩), .int .i64 (a : Int), .int .i64 (b : Int), .bool off] w (fun e w' => ∃ v, e = .returned v ∧ v = .int .i64 (setE s a b : Int) ∧ AftR Y (setCut s a b off) p bl w w') := by
  have hR := h
  obtain ⟨R, rfl, rfl, rfl, hok, hown⟩ := h
  refine calls_of Try.func20 rfl Try.ntmps20 rfl ?_
  repeat' (first | refine a_mov ?_ | refine a_asg ?_ | refine a_binN ?_ | refine a_notd ?_ | refine a_notb ?_ | refine a_nilc ?_ | refine a_fa ?_ | refine a_ext ?_ | refine a_lenv ?_ | refine a_lens ?_ | refine a_pick_t ?_ | refine a_pick_f ?_ | refine a_not ?_ | refine a_nilf ?_ | (refine o_nil (hK _ _ ?_); clear hK K) | refine wk_reg ?_ | refine wk_seq fun K hK => ?_ | (refine wk_skip (hK _ _ ?_); clear hK K) | (refine wk_label (hK _ _ ?_); clear hK K) | refine wk_scope ?_ | refine wk_block ?_ | refine wk_cond_t rfl ?_ | refine wk_cond_f rfl ?_ | (refine wk_exit ?_; (repeat (refine blockK_other rfl ?_)); refine blockK_same ?_; try ((repeat ((fail_if_success (refine hK _ _ ?_)); clear hK K)); refine hK _ _ ?_; clear hK K)) | (refine a_bin ?_ ?_ <;> intro _ <;> try (exfalso; omega)) | refine a_ld hl ?_ | (refine a_st hl ?_; clear hl; intro _ hl) | refine a_ix (fun _ => ?_) | fail)
  refine a_fn (pairR_calls (s := s) (RefB.r0 hown) a b) ?_
  rintro _ w1 ⟨rfl, he1⟩
  cases hp : pair s a b
  · repeat' (first | refine a_mov ?_ | refine a_asg ?_ | refine a_binN ?_ | refine a_notd ?_ | refine a_notb ?_ | refine a_nilc ?_ | refine a_fa ?_ | refine a_ext ?_ | refine a_lenv ?_ | refine a_lens ?_ | refine a_pick_t ?_ | refine a_pick_f ?_ | refine a_not ?_ | refine a_nilf ?_ | (refine o_nil (hK _ _ ?_); clear hK K) | refine wk_reg ?_ | refine wk_seq fun K hK => ?_ | (refine wk_skip (hK _ _ ?_); clear hK K) | (refine wk_label (hK _ _ ?_); clear hK K) | refine wk_scope ?_ | refine wk_block ?_ | refine wk_cond_t rfl ?_ | refine wk_cond_f rfl ?_ | (refine wk_exit ?_; (repeat (refine blockK_other rfl ?_)); refine blockK_same ?_; try ((repeat ((fail_if_success (refine hK _ _ ?_)); clear hK K)); refine hK _ _ ?_; clear hK K)) | (refine a_bin ?_ ?_ <;> intro _ <;> try (exfalso; omega)) | refine a_ld hl ?_ | (refine a_st hl ?_; clear hl; intro _ hl) | refine a_ix (fun _ => ?_) | fail)
    refine wk_ret (retQ_tmp1 Try.results20 (by decide) rfl (by conv => lhs; whnf) ?_)
    refine ⟨by unfold setE; rw [hp]; rfl, ?_⟩
    rw [show setCut s a b off = s by unfold setCut; rw [if_neg (by rw [hp]; decide)]]
    exact AftR.same hR he1
  · obtain ⟨ha, hb, hab⟩ := of_decide_eq_true hp
    have hown1 := hown.ext he1
    repeat' (first | refine a_mov ?_ | refine a_asg ?_ | refine a_binN ?_ | refine a_notd ?_ | refine a_notb ?_ | refine a_nilc ?_ | refine a_fa ?_ | refine a_ext ?_ | refine a_lenv ?_ | refine a_lens ?_ | refine a_pick_t ?_ | refine a_pick_f ?_ | refine a_not ?_ | refine a_nilf ?_ | (refine o_nil (hK _ _ ?_); clear hK K) | refine wk_reg ?_ | refine wk_seq fun K hK => ?_ | (refine wk_skip (hK _ _ ?_); clear hK K) | (refine wk_label (hK _ _ ?_); clear hK K) | refine wk_scope ?_ | refine wk_block ?_ | refine wk_cond_t rfl ?_ | refine wk_cond_f rfl ?_ | (refine wk_exit ?_; (repeat (refine blockK_other rfl ?_)); refine blockK_same ?_; try ((repeat ((fail_if_success (refine hK _ _ ?_)); clear hK K)); refine hK _ _ ?_; clear hK K)) | (refine a_bin ?_ ?_ <;> intro _ <;> try (exfalso; omega)) | refine a_ld hl ?_ | (refine a_st hl ?_; clear hl; intro _ hl) | refine a_ix (fun _ => ?_) | refine a_row (RefB.r0 hown1) ?_ | refine a_idx (c := 1) a rfl ?_ | refine a_idx (c := 1) b rfl ?_ | refine a_row (RefB.rO hown1 ha) ?_ | fail)
    refine o_store (RefB.atRow hown1 (kd := 4) ha (by omega)) 0 [.bool off] rfl rfl rfl rfl rfl (flt_len (c := 1) (fun _ => rfl) [] hb) rfl ?_
    intro w2 hl2
    have hown2 := RefB.setCo off ha hb hl2 hown1
    clear hl2
    repeat' (first | refine a_mov ?_ | refine a_asg ?_ | refine a_binN ?_ | refine a_notd ?_ | refine a_notb ?_ | refine a_nilc ?_ | refine a_fa ?_ | refine a_ext ?_ | refine a_lenv ?_ | refine a_lens ?_ | refine a_pick_t ?_ | refine a_pick_f ?_ | refine a_not ?_ | refine a_nilf ?_ | (refine o_nil (hK _ _ ?_); clear hK K) | refine wk_reg ?_ | refine wk_seq fun K hK => ?_ | (refine wk_skip (hK _ _ ?_); clear hK K) | (refine wk_label (hK _ _ ?_); clear hK K) | refine wk_scope ?_ | refine wk_block ?_ | refine wk_cond_t rfl ?_ | refine wk_cond_f rfl ?_ | (refine wk_exit ?_; (repeat (refine blockK_other rfl ?_)); refine blockK_same ?_; try ((repeat ((fail_if_success (refine hK _ _ ?_)); clear hK K)); refine hK _ _ ?_; clear hK K)) | (refine a_bin ?_ ?_ <;> intro _ <;> try (exfalso; omega)) | refine a_ld hl ?_ | (refine a_st hl ?_; clear hl; intro _ hl) | refine a_ix (fun _ => ?_) | refine a_row (RefB.r0 hown2) ?_ | refine a_idx (c := 1) a rfl ?_ | refine a_idx (c := 1) b rfl ?_ | refine a_row (RefB.rO hown2 hb) ?_ | fail)
    refine o_store (RefB.atRow hown2 (kd := 4) hb (by omega)) 0 [.bool off] rfl rfl rfl rfl rfl (flt_len (c := 1) (fun _ => rfl) [] ha) rfl ?_
    intro w3 hl3
    have hown3 := RefB.setCo off hb ha hl3 hown2
    clear hl3
    repeat' (first | refine a_mov ?_ | refine a_asg ?_ | refine a_binN ?_ | refine a_notd ?_ | refine a_notb ?_ | refine a_nilc ?_ | refine a_fa ?_ | refine a_ext ?_ | refine a_lenv ?_ | refine a_lens ?_ | refine a_pick_t ?_ | refine a_pick_f ?_ | refine a_not ?_ | refine a_nilf ?_ | (refine o_nil (hK _ _ ?_); clear hK K) | refine wk_reg ?_ | refine wk_seq fun K hK => ?_ | (refine wk_skip (hK _ _ ?_); clear hK K) | (refine wk_label (hK _ _ ?_); clear hK K) | refine wk_scope ?_ | refine wk_block ?_ | refine wk_cond_t rfl ?_ | refine wk_cond_f rfl ?_ | (refine wk_exit ?_; (repeat (refine blockK_other rfl ?_)); refine blockK_same ?_; try ((repeat ((fail_if_success (refine hK _ _ ?_)); clear hK K)); refine hK _ _ ?_; clear hK K)) | (refine a_bin ?_ ?_ <;> intro _ <;> try (exfalso; omega)) | refine a_ld hl ?_ | (refine a_st hl ?_; clear hl; intro _ hl) | refine a_ix (fun _ => ?_) | fail)
    refine wk_ret (retQ_tmp1 Try.results20 (by decide) rfl (by conv => lhs; whnf) ?_)
    refine ⟨by unfold setE; rw [hp]; rfl, ?_⟩
    have hnode := setCut_node s a b off
    have hq := setCut_q s a b off
    have hall := all_setCut s a b off
    have hn := n_setCut s a b off
    refine AftR.mk (R' := { R with co := upd2 (upd2 R.co a b off) b a off }) rfl (by rw [hn]; exact hown3) (hok.moved hown3 rfl hn (fun i _ => .inl ⟨rfl, by unfold texts; rw [hnode]⟩) (fun i j _ _ => .inl ⟨rfl, by rw [hnode]⟩) (fun i j _ _ => .inl ⟨rfl, rfl, by rw [hq]⟩) (by rw [hall]; exact hok.a) (fun i j hi hj => by rw [hnode]; exact hok.h i j hi hj) (fun i j hi hj => by rw [hnode]; exact hok.k i j hi hj) (fun i j hi hj => ?_)) rfl
    rw [cutA_upd s a b off hp]
    show upd2 (upd2 R.co a b off) b a off i j = _
    have := hok.c i j hi hj
    by_cases e1 : i = b ∧ j = a
    · obtain ⟨rfl, rfl⟩ := e1
      rw [upd2_same, upd2_same]
    · rw [upd2_ne _ _ e1, upd2_ne _ _ e1]
      by_cases e2 : i = a ∧ j = b
      · obtain ⟨rfl, rfl⟩ := e2
        rw [upd2_same, upd2_same]
      · rw [upd2_ne _ _ e2, upd2_ne _ _ e2]; exact this
end Go.Proofs
