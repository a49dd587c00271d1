/-
  Conditions of commencement: the parser's helpers (fail, is, take).
-/
import Derived.Test.YtebaoilkpedppaaGreatDoorQLZ
import Derived.Test.YtebaoilkpedppaaGreatDoorQO
import Derived.Test.YtebaoilkpedppaaGreatDoorQLD
import Derived.Test.YtebaoilkpedppaaGreatDoorQSA
import Derived.Test.YtebaoilkpedppaaGreatDoorQSB
import Derived.Test.YtebaoilkpedppaaGreatDoorQSF
import Derived.Test.YtebaoilkpedppaaGreatDoorQStW
import Derived.Test.YtebaoilkpedppaaGreatDoorQE
set_option linter.unusedVariables false
set_option linter.unusedSimpArgs false
set_option linter.unnecessarySimpa false
set_option maxRecDepth 10000
namespace Go.Proofs
open Go Go.Pd Go.Sta
open Go.Lexs (Tok)
attribute [local irreducible] OpsL W RetQ OpsQ OpsC
def psL (tv : Value) (i en : Int) : List Value := [tv, .int .i64 i, .int .i64 en]
def psB (pb : Nat) (tv : Value) (i en : Int) : Nat × Obj := (pb, .cells (psL tv i en).toArray 59 (0, 0))
def faultV (e a : Int) : Value := .iface 56 (.agg #[.int .i64 e, .int .i64 a])
def faultC (e a : Int) : List PanicEntry := [{ v := faultV e a, recovered := false }]
def TK (w : World) (pb : Nat) (tv : Value) (ts : List Tok) : Prop := Sl w tv 4 (toksL ts) ∧ (toksL ts ≠ [] → Off (OneB pb) tv) ∧ ts.length ≤ 5000
theorem TK.upd {w w' : World} {pb : Nat} {tv : Value} {ts : List Tok} (h : TK w pb tv ts) (e : Upd (OneB pb) w w') : TK w' pb tv ts := ⟨sl_updE h.1 e h.2.1, h.2⟩
theorem tokL_len (t : Tok) : (tokL t).length = 4 := rfl
theorem toksL_len (ts : List Tok) : (toksL ts).length = ts.length * 4 := flat_length tokL_len ts
theorem ext_upd {M : Nat → Prop} {w w' : World} (h : Ext w w') : Upd M w w' := ⟨h.size, fun b hb _ => h.same b hb (fun h => h), h.os, h.out⟩
theorem TK.shape {w : World} {pb : Nat} {tv : Value} {ts : List Tok} (h : TK w pb tv ts) : ∃ a c, tv = .slice a ts.length c ∧ ts.length ≤ c := h.1.shape (toksL_len ts) (by omega)
theorem TK.at {w : World} {pb c : Nat} {a : Option Addr} {ts : List Tok} (h : TK w pb (.slice a ts.length c) ts) {i : Nat} (hi : i < ts.length) : ∃ b o, a = some ⟨b, o, none⟩ ∧ Row w b (o + i * 4) (tokL ts[i]) := by
  obtain ⟨b, o, hp, hr⟩ := h.1.at (toksL_len ts) (by omega) (by omega)
  exact ⟨b, o, hp, hr.elem tokL_len (k := i) (t := ts[i]) (by simp [hi])⟩
def FailP (w : World) (en : Int) (r : List Tok) : List PanicEntry → World → Prop := fun ch w' => ch = faultC (failE r) (failA en r) ∧ Ext w w'
def FailU (w : World) (pb : Nat) (en : Int) (r : List Tok) : List PanicEntry → World → Prop := fun ch w' => ch = faultC (failE r) (failA en r) ∧ Upd (OneB pb) w w'
theorem fail_calls {w : World} {pb : Nat} {tv : Value} {ts : List Tok} {i : Nat} {en : Int} (hT : TK w pb tv ts) (hp : Row w pb 0 (psL tv i en)) (hi : i ≤ ts.length) :
    Calls Tryz.prog 30 #[.pointer (some ⟨pb, 0, none⟩)] w (EndP (fun _ _ => False) (FailP w en (ts.drop i))) := by
  obtain ⟨ta, tc, rfl, hcap⟩ := hT.shape
  have hlen := hT.2.2
  refine calls_ofP Tryz.func30 rfl Tryz.ntmps30 rfl ?_
  refine wk_seq fun K hK => ?_
  refine wk_seq fun K2 hK2 => ?_
  by_cases h : i = ts.length
  · subst h
    refine wk_np (wk_quiet (List.range 10) ?_)
    repeat' (first | refine q_mov ?_ | refine q_asg ?_ | refine q_fa ?_ | refine q_ext ?_ | refine q_binN ?_ | refine q_notd ?_ | refine q_notb ?_ | refine q_pick_t ?_ | refine q_pick_f ?_ | refine q_nilc ?_ | refine q_skip ?_ | refine q_lens ?_ | refine q_lenv ?_ | refine q_nil ?_ | refine q_ix (fun _ => ?_) | (refine q_bin ?_ ?_ <;> intro _ <;> try (exfalso; omega)) | refine q_row (fun w_ hw_ => hp.ext hw_) ?_)
    intro w1 hx1
    refine hK2 _ _ ?_
    clear hK2 K2
    refine wk_cond_t rfl ?_
    refine wk_reg ?_
    repeat' (first | refine a_mov ?_ | refine a_asg ?_ | refine a_binN ?_ | refine a_notd ?_ | refine a_notb ?_ | refine a_nilc ?_ | refine a_fa ?_ | refine a_ext ?_ | refine a_lenv ?_ | refine a_lens ?_ | refine a_pick_t ?_ | refine a_pick_f ?_ | refine a_not ?_ | refine a_nilf ?_ | (refine a_bin ?_ ?_ <;> intro _ <;> try (exfalso; omega)) | refine a_ld hl ?_ | (refine a_st hl ?_; clear hl; intro _ hl) | refine a_ix (fun _ => ?_) | refine a_row (hp.ext hx1) ?_ | fail)
    refine o_build [.int .i64 6, .int .i64 en] rfl rfl ?_
    refine a_mif (v := .agg #[.int .i64 6, .int .i64 en]) ?_
    refine a_panic (v := faultV 6 en) (retP_panic rfl ⟨?_, hx1⟩)
    rw [List.drop_length]
    rfl
  · have hlt : i < ts.length := by omega
    obtain ⟨b, o, rfl, hr⟩ := hT.at hlt
    refine wk_np (wk_quiet (List.range 10) ?_)
    repeat' (first | refine q_mov ?_ | refine q_asg ?_ | refine q_fa ?_ | refine q_ext ?_ | refine q_binN ?_ | refine q_notd ?_ | refine q_notb ?_ | refine q_pick_t ?_ | refine q_pick_f ?_ | refine q_nilc ?_ | refine q_skip ?_ | refine q_lens ?_ | refine q_lenv ?_ | refine q_nil ?_ | refine q_ix (fun _ => ?_) | (refine q_bin ?_ ?_ <;> intro _ <;> try (exfalso; omega)) | refine q_row (fun w_ hw_ => hp.ext hw_) ?_)
    intro w1 hx1
    refine hK2 _ _ ?_
    clear hK2 K2
    refine wk_cond_f rfl ?_
    refine wk_skip (hK _ _ ?_)
    clear hK K
    refine wk_drawZ (Z := FailP w en (ts.drop i)) (List.range 13) [13] (fun c s w hd h => retP_panic hd h) ?_
    repeat' (first | refine q_mov ?_ | refine q_asg ?_ | refine q_fa ?_ | refine q_ext ?_ | refine q_binN ?_ | refine q_notd ?_ | refine q_notb ?_ | refine q_pick_t ?_ | refine q_pick_f ?_ | refine q_nilc ?_ | refine q_skip ?_ | refine q_lens ?_ | refine q_lenv ?_ | refine q_nil ?_ | refine q_ix (fun _ => ?_) | (refine q_bin ?_ ?_ <;> intro _ <;> try (exfalso; omega)) | refine q_row (fun w_ hw_ => (hp.ext hx1).ext hw_) ?_ | refine q_idx (c := 4) i rfl ?_ | refine q_row (fun w_ hw_ => (hr.ext hx1).ext hw_) ?_)
    refine q_pur rfl rfl rfl (fun _ => r_build [.int .i64 5, .int .i64 (ts[i].pos : Int)] rfl) ?_
    refine q_val rfl rfl rfl rfl (fun w_ hw_ => r_mif (v := .agg #[.int .i64 5, .int .i64 (ts[i].pos : Int)]) rfl (by kernel_rfl)) ?_
    refine q_nil ?_
    intro w2 hx2
    refine ops_tail rfl rfl ?_
    refine a_panic (v := faultV 5 (ts[i].pos : Int)) ⟨rfl, ?_, hx1.trans hx2⟩
    rw [List.drop_eq_getElem_cons hlt]
    rfl
theorem is_calls {w : World} {pb : Nat} {tv : Value} {ts : List Tok} {i : Nat} {en : Int} {wd : Tx} (hT : TK w pb tv ts) (hl : LH w (OneB pb) w [psB pb tv i en]) (hi : i ≤ ts.length) :
    Calls Tryz.prog 90 #[.pointer (some ⟨pb, 0, none⟩), str wd] w (fun e w' => ∃ v, e = .returned v ∧ v = .bool (isT wd (ts.drop i)) ∧ LH w (OneB pb) w' [psB pb tv (if isT wd (ts.drop i) then i + 1 else i : Nat) en]) := by
  obtain ⟨ta, tc, rfl, hcap⟩ := hT.shape
  have hlen := hT.2.2
  have hp : Row w pb 0 (psL (.slice ta ts.length tc) i en) := hl.rowL (vs := psL (.slice ta ts.length tc) i en) 0 0 3 rfl
  refine calls_of Tryz.func90 rfl Tryz.ntmps90 rfl ?_
  refine wk_seq fun K hK => ?_
  refine wk_reg ?_
  refine o_asg rfl rfl ?_
  refine o_nil (hK _ _ ?_)
  clear hK K
  refine wk_seq fun K hK => ?_
  refine wk_seq fun K2 hK2 => ?_
  have hout : ∀ w1, Ext w w1 → LH w (OneB pb) w1 [psB pb (.slice ta ts.length tc) i en] := fun w1 hx => hl.ext hx
  by_cases h : i = ts.length
  · subst h
    refine wk_quiet (List.range 39) ?_
    repeat' (first | refine q_mov ?_ | refine q_asg ?_ | refine q_fa ?_ | refine q_ext ?_ | refine q_binN ?_ | refine q_notd ?_ | refine q_notb ?_ | refine q_pick_t ?_ | refine q_pick_f ?_ | refine q_nilc ?_ | refine q_skip ?_ | refine q_lens ?_ | refine q_lenv ?_ | refine q_nil ?_ | refine q_ix (fun _ => ?_) | (refine q_bin ?_ ?_ <;> intro _ <;> try (exfalso; omega)) | refine q_row (fun w_ hw_ => hp.ext hw_) ?_)
    intro w1 hx1
    refine hK2 _ _ ?_
    clear hK2 K2
    repeat' (first | refine a_mov ?_ | refine a_asg ?_ | refine a_binN ?_ | refine a_notd ?_ | refine a_notb ?_ | refine a_nilc ?_ | refine a_fa ?_ | refine a_ext ?_ | refine a_lenv ?_ | refine a_lens ?_ | refine a_pick_t ?_ | refine a_pick_f ?_ | refine a_not ?_ | refine a_nilf ?_ | (refine o_nil (hK _ _ ?_); clear hK K) | refine wk_reg ?_ | refine wk_seq fun K hK => ?_ | (refine wk_skip (hK _ _ ?_); clear hK K) | (refine wk_label (hK _ _ ?_); clear hK K) | refine wk_scope ?_ | refine wk_block ?_ | refine wk_cond_t rfl ?_ | refine wk_cond_f rfl ?_ | (refine wk_exit ?_; (repeat (refine blockK_other rfl ?_)); refine blockK_same ?_; try ((repeat ((fail_if_success (refine hK _ _ ?_)); clear hK K)); refine hK _ _ ?_; clear hK K)) | (refine a_bin ?_ ?_ <;> intro _ <;> try (exfalso; omega)) | refine a_ld hl ?_ | (refine a_st hl ?_; clear hl; intro _ hl) | refine a_ix (fun _ => ?_) | fail)
    refine wk_ret (retQ_tmp1 Tryz.results90 (by decide) rfl (by conv => lhs; whnf) ?_)
    rw [List.drop_length]
    exact ⟨rfl, hout _ hx1⟩
  have hlt : i < ts.length := by omega
  obtain ⟨b, o, rfl, hr⟩ := hT.at hlt
  obtain ⟨kb, hkb⟩ : ∃ kb, kb = decide (ts[i].kind = 2) := ⟨_, rfl⟩
  obtain ⟨xb, hxb⟩ : ∃ xb, xb = decide (ts[i].text ≠ wd) := ⟨_, rfl⟩
  have hval : isT wd (ts.drop i) = (!kb && !xb) := by
    rw [List.drop_eq_getElem_cons hlt, hkb, hxb]
    simp [isT]
  have hki : ((ts[i].kind : Int) = 2) ↔ ts[i].kind = 2 := by omega
  cases kb
  · have hk2 : ts[i].kind ≠ 2 := by simpa using hkb.symm
    refine wk_quiet (List.range 39) ?_
    repeat' (first | refine q_mov ?_ | refine q_asg ?_ | refine q_fa ?_ | refine q_ext ?_ | refine q_binN ?_ | refine q_notd ?_ | refine q_notb ?_ | refine q_pick_t ?_ | refine q_pick_f ?_ | refine q_nilc ?_ | refine q_skip ?_ | refine q_lens ?_ | refine q_lenv ?_ | refine q_nil ?_ | refine q_ix (fun _ => ?_) | (refine q_bin ?_ ?_ <;> intro _ <;> try (exfalso; omega)) | refine q_row (fun w_ hw_ => hp.ext hw_) ?_ | refine q_idx (c := 4) i rfl ?_ | refine q_row (fun w_ hw_ => hr.ext hw_) ?_ | refine q_pur rfl rfl rfl (fun _ => (r_nes (a := ts[i].text) (b := wd) rfl rfl).trans (by rw [← hxb])) ?_)
    intro w1 hx1
    refine hK2 _ _ ?_
    clear hK2 K2
    cases xb
    · refine wk_cond_f rfl ?_
      refine wk_skip (hK _ _ ?_)
      clear hK K
      replace hl := hl.ext hx1
      repeat' (first | refine a_mov ?_ | refine a_asg ?_ | refine a_binN ?_ | refine a_notd ?_ | refine a_notb ?_ | refine a_nilc ?_ | refine a_fa ?_ | refine a_ext ?_ | refine a_lenv ?_ | refine a_lens ?_ | refine a_pick_t ?_ | refine a_pick_f ?_ | refine a_not ?_ | refine a_nilf ?_ | (refine o_nil (hK _ _ ?_); clear hK K) | refine wk_reg ?_ | refine wk_seq fun K hK => ?_ | (refine wk_skip (hK _ _ ?_); clear hK K) | (refine wk_label (hK _ _ ?_); clear hK K) | refine wk_scope ?_ | refine wk_block ?_ | refine wk_cond_t rfl ?_ | refine wk_cond_f rfl ?_ | (refine wk_exit ?_; (repeat (refine blockK_other rfl ?_)); refine blockK_same ?_; try ((repeat ((fail_if_success (refine hK _ _ ?_)); clear hK K)); refine hK _ _ ?_; clear hK K)) | (refine a_bin ?_ ?_ <;> intro _ <;> try (exfalso; omega)) | refine a_ld hl ?_ | (refine a_st hl ?_; clear hl; intro _ hl) | refine a_ix (fun _ => ?_) | fail)
      refine wk_ret (retQ_tmp1 Tryz.results90 (by decide) rfl (by conv => lhs; whnf) ?_)
      rw [hval]
      exact ⟨rfl, hl⟩
    · repeat' (first | refine a_mov ?_ | refine a_asg ?_ | refine a_binN ?_ | refine a_notd ?_ | refine a_notb ?_ | refine a_nilc ?_ | refine a_fa ?_ | refine a_ext ?_ | refine a_lenv ?_ | refine a_lens ?_ | refine a_pick_t ?_ | refine a_pick_f ?_ | refine a_not ?_ | refine a_nilf ?_ | (refine o_nil (hK _ _ ?_); clear hK K) | refine wk_reg ?_ | refine wk_seq fun K hK => ?_ | (refine wk_skip (hK _ _ ?_); clear hK K) | (refine wk_label (hK _ _ ?_); clear hK K) | refine wk_scope ?_ | refine wk_block ?_ | refine wk_cond_t rfl ?_ | refine wk_cond_f rfl ?_ | (refine wk_exit ?_; (repeat (refine blockK_other rfl ?_)); refine blockK_same ?_; try ((repeat ((fail_if_success (refine hK _ _ ?_)); clear hK K)); refine hK _ _ ?_; clear hK K)) | (refine a_bin ?_ ?_ <;> intro _ <;> try (exfalso; omega)) | refine a_ld hl ?_ | (refine a_st hl ?_; clear hl; intro _ hl) | refine a_ix (fun _ => ?_) | fail)
      refine wk_ret (retQ_tmp1 Tryz.results90 (by decide) rfl (by conv => lhs; whnf) ?_)
      rw [hval]
      exact ⟨rfl, hout _ hx1⟩
  · have hk2 : ts[i].kind = 2 := by simpa using hkb.symm
    refine wk_quiet (List.range 39) ?_
    repeat' (first | refine q_mov ?_ | refine q_asg ?_ | refine q_fa ?_ | refine q_ext ?_ | refine q_binN ?_ | refine q_notd ?_ | refine q_notb ?_ | refine q_pick_t ?_ | refine q_pick_f ?_ | refine q_nilc ?_ | refine q_skip ?_ | refine q_lens ?_ | refine q_lenv ?_ | refine q_nil ?_ | refine q_ix (fun _ => ?_) | (refine q_bin ?_ ?_ <;> intro _ <;> try (exfalso; omega)) | refine q_row (fun w_ hw_ => hp.ext hw_) ?_ | refine q_idx (c := 4) i rfl ?_ | refine q_row (fun w_ hw_ => hr.ext hw_) ?_)
    intro w1 hx1
    refine hK2 _ _ ?_
    clear hK2 K2
    repeat' (first | refine a_mov ?_ | refine a_asg ?_ | refine a_binN ?_ | refine a_notd ?_ | refine a_notb ?_ | refine a_nilc ?_ | refine a_fa ?_ | refine a_ext ?_ | refine a_lenv ?_ | refine a_lens ?_ | refine a_pick_t ?_ | refine a_pick_f ?_ | refine a_not ?_ | refine a_nilf ?_ | (refine o_nil (hK _ _ ?_); clear hK K) | refine wk_reg ?_ | refine wk_seq fun K hK => ?_ | (refine wk_skip (hK _ _ ?_); clear hK K) | (refine wk_label (hK _ _ ?_); clear hK K) | refine wk_scope ?_ | refine wk_block ?_ | refine wk_cond_t rfl ?_ | refine wk_cond_f rfl ?_ | (refine wk_exit ?_; (repeat (refine blockK_other rfl ?_)); refine blockK_same ?_; try ((repeat ((fail_if_success (refine hK _ _ ?_)); clear hK K)); refine hK _ _ ?_; clear hK K)) | (refine a_bin ?_ ?_ <;> intro _ <;> try (exfalso; omega)) | refine a_ld hl ?_ | (refine a_st hl ?_; clear hl; intro _ hl) | refine a_ix (fun _ => ?_) | fail)
    refine wk_ret (retQ_tmp1 Tryz.results90 (by decide) rfl (by conv => lhs; whnf) ?_)
    rw [hval]
    exact ⟨rfl, hout _ hx1⟩
theorem take_calls {w : World} {pb : Nat} {tv : Value} {ts : List Tok} {i k : Nat} {en : Int} (hT : TK w pb tv ts) (hl : LH w (OneB pb) w [psB pb tv i en]) (hi : i ≤ ts.length) :
    Calls Tryz.prog 91 #[.pointer (some ⟨pb, 0, none⟩), .int .i64 (k : Int)] w (EndP (fun v w' => ∃ h : i < ts.length, ts[i].kind = k ∧ v = .agg (tokL ts[i]).toArray ∧ LH w (OneB pb) w' [psB pb tv (i + 1 : Nat) en]) (fun ch w' => (∀ h : i < ts.length, ts[i].kind ≠ k) ∧ FailU w pb en (ts.drop i) ch w')) := by
  obtain ⟨ta, tc, rfl, hcap⟩ := hT.shape
  have hlen := hT.2.2
  refine calls_ofP Tryz.func91 rfl Tryz.ntmps91 rfl ?_
  refine wk_seq fun K hK => ?_
  refine wk_reg ?_
  refine o_alloc hl [.int .i64 0, .string "".toByteArray, .int .i64 0, .int .i64 0] (by kernel_rfl) rfl ?_
  clear hl
  intro b4 w1 hb4 hl
  refine o_nil (hK _ _ ?_)
  clear hK K
  refine wk_seq fun K hK => ?_
  have hp : Row w1 pb 0 (psL (.slice ta ts.length tc) i en) := hl.rowL (vs := psL (.slice ta ts.length tc) i en) 1 0 3 rfl
  have hT1 := hT.upd hl.upd
  refine wk_seq fun K2 hK2 => ?_
  by_cases h : i = ts.length
  · subst h
    refine wk_np (wk_quiet (List.range 25) ?_)
    repeat' (first | refine q_mov ?_ | refine q_asg ?_ | refine q_fa ?_ | refine q_ext ?_ | refine q_binN ?_ | refine q_notd ?_ | refine q_notb ?_ | refine q_pick_t ?_ | refine q_pick_f ?_ | refine q_nilc ?_ | refine q_skip ?_ | refine q_lens ?_ | refine q_lenv ?_ | refine q_nil ?_ | refine q_ix (fun _ => ?_) | (refine q_bin ?_ ?_ <;> intro _ <;> try (exfalso; omega)) | refine q_row (fun w_ hw_ => hp.ext hw_) ?_)
    intro w2 hx2
    refine hK2 _ _ ?_
    clear hK2 K2
    refine wk_cond_t rfl ?_
    refine wk_reg ?_
    repeat' (first | refine a_mov ?_ | refine a_asg ?_ | refine a_binN ?_ | refine a_notd ?_ | refine a_notb ?_ | refine a_nilc ?_ | refine a_fa ?_ | refine a_ext ?_ | refine a_lenv ?_ | refine a_lens ?_ | refine a_pick_t ?_ | refine a_pick_f ?_ | refine a_not ?_ | refine a_nilf ?_ | (refine a_bin ?_ ?_ <;> intro _ <;> try (exfalso; omega)) | refine a_ld hl ?_ | (refine a_st hl ?_; clear hl; intro _ hl) | refine a_ix (fun _ => ?_) | fail)
    refine a_fnP (fail_calls (hT1.upd (ext_upd hx2)) (hp.ext hx2) (Nat.le_refl _)) (fun v w' h => h.elim) (fun ch w' hz => retP_panic rfl ?_)
    exact ⟨fun h => absurd h (Nat.lt_irrefl _), hz.1, ((hl.ext hx2).ext hz.2).upd⟩
  · have hlt : i < ts.length := by omega
    obtain ⟨b, o, rfl, hr⟩ := hT1.at hlt
    by_cases hk : ts[i].kind = k
    · refine wk_np (wk_quiet (List.range 25) ?_)
      repeat' (first | refine q_mov ?_ | refine q_asg ?_ | refine q_fa ?_ | refine q_ext ?_ | refine q_binN ?_ | refine q_notd ?_ | refine q_notb ?_ | refine q_pick_t ?_ | refine q_pick_f ?_ | refine q_nilc ?_ | refine q_skip ?_ | refine q_lens ?_ | refine q_lenv ?_ | refine q_nil ?_ | refine q_ix (fun _ => ?_) | (refine q_bin ?_ ?_ <;> intro _ <;> try (exfalso; omega)) | refine q_row (fun w_ hw_ => hp.ext hw_) ?_ | refine q_idx (c := 4) i rfl ?_ | refine q_row (fun w_ hw_ => hr.ext hw_) ?_)
      intro w2 hx2
      refine hK2 _ _ ?_
      clear hK2 K2
      refine wk_cond_f rfl ?_
      refine wk_skip (hK _ _ ?_)
      clear hK K
      replace hl := hl.ext hx2
      repeat' (first | refine a_mov ?_ | refine a_asg ?_ | refine a_binN ?_ | refine a_notd ?_ | refine a_notb ?_ | refine a_nilc ?_ | refine a_fa ?_ | refine a_ext ?_ | refine a_lenv ?_ | refine a_lens ?_ | refine a_pick_t ?_ | refine a_pick_f ?_ | refine a_not ?_ | refine a_nilf ?_ | (refine o_nil (hK _ _ ?_); clear hK K) | refine wk_reg ?_ | refine wk_seq fun K hK => ?_ | (refine wk_skip (hK _ _ ?_); clear hK K) | (refine wk_label (hK _ _ ?_); clear hK K) | refine wk_scope ?_ | refine wk_block ?_ | refine wk_cond_t rfl ?_ | refine wk_cond_f rfl ?_ | (refine wk_exit ?_; (repeat (refine blockK_other rfl ?_)); refine blockK_same ?_; try ((repeat ((fail_if_success (refine hK _ _ ?_)); clear hK K)); refine hK _ _ ?_; clear hK K)) | (refine a_bin ?_ ?_ <;> intro _ <;> try (exfalso; omega)) | refine a_ld hl ?_ | (refine a_st hl ?_; clear hl; intro _ hl) | refine a_ix (fun _ => ?_) | fail)
      rename_i w3
      have hp3 : Row w3 pb 0 (psL (.slice (some ⟨b, o, none⟩) ts.length tc) ((i : Int) + 1) en) := hl.rowL (vs := psL (.slice (some ⟨b, o, none⟩) ts.length tc) ((i : Int) + 1) en) 1 0 3 rfl
      obtain ⟨b3, o3, e3, hr3⟩ := (hT.upd hl.upd).at hlt
      cases e3
      refine wk_drawZ (Z := fun _ _ => False) (List.range 11) [11] (fun c s w hd h => h.elim) ?_
      have hi1 : (i : Int) + 1 - 1 = (i : Int) := by omega
      repeat' (first | refine q_mov ?_ | refine q_asg ?_ | refine q_fa ?_ | refine q_ext ?_ | refine q_binN ?_ | refine q_notd ?_ | refine q_notb ?_ | refine q_pick_t ?_ | refine q_pick_f ?_ | refine q_nilc ?_ | refine q_skip ?_ | refine q_lens ?_ | refine q_lenv ?_ | refine q_nil ?_ | refine q_ix (fun _ => ?_) | (refine q_bin ?_ ?_ <;> intro _ <;> try (exfalso; omega)) | refine q_row (fun w_ hw_ => hp3.ext hw_) ?_ | (rw [hi1]; refine q_idx (c := 4) i rfl ?_) | refine q_all (fun w_ hw_ => hr3.ext hw_) ?_)
      intro w4 hx4
      replace hl := hl.ext hx4
      refine ops_tail rfl rfl ?_
      refine o_putN (us := tokL ts[i]) hl rfl rfl rfl (by simp only [tokL, List.all_cons, List.all_nil, oneCell_str]; rfl) rfl (.here rfl rfl) ?_
      clear hl
      intro w5 hl
      refine o_nil ⟨trivial, ?_⟩
      refine ops_nil (hK _ _ ?_)
      refine wk_ret (retP_of (retQ_res [.agg (tokL ts[i]).toArray] rfl rfl ⟨by decide, ⟨⟨b4, 0, none⟩, rfl, run_loadVarN rfl rfl (hl.rowL (vs := tokL ts[i]) 0 0 4 rfl)⟩, trivial⟩ ?_) rfl)
      exact ⟨hlt, hk, rfl, hl.sub (List.sublist_cons_self _ _)⟩
    · refine wk_np (wk_quiet (List.range 25) ?_)
      repeat' (first | refine q_mov ?_ | refine q_asg ?_ | refine q_fa ?_ | refine q_ext ?_ | refine q_binN ?_ | refine q_notd ?_ | refine q_notb ?_ | refine q_pick_t ?_ | refine q_pick_f ?_ | refine q_nilc ?_ | refine q_skip ?_ | refine q_lens ?_ | refine q_lenv ?_ | refine q_nil ?_ | refine q_ix (fun _ => ?_) | (refine q_bin ?_ ?_ <;> intro _ <;> try (exfalso; omega)) | refine q_row (fun w_ hw_ => hp.ext hw_) ?_ | refine q_idx (c := 4) i rfl ?_ | refine q_row (fun w_ hw_ => hr.ext hw_) ?_)
      intro w2 hx2
      refine hK2 _ _ ?_
      clear hK2 K2
      refine wk_cond_t rfl ?_
      refine wk_reg ?_
      repeat' (first | refine a_mov ?_ | refine a_asg ?_ | refine a_binN ?_ | refine a_notd ?_ | refine a_notb ?_ | refine a_nilc ?_ | refine a_fa ?_ | refine a_ext ?_ | refine a_lenv ?_ | refine a_lens ?_ | refine a_pick_t ?_ | refine a_pick_f ?_ | refine a_not ?_ | refine a_nilf ?_ | (refine a_bin ?_ ?_ <;> intro _ <;> try (exfalso; omega)) | refine a_ld hl ?_ | (refine a_st hl ?_; clear hl; intro _ hl) | refine a_ix (fun _ => ?_) | fail)
      refine a_fnP (fail_calls (hT1.upd (ext_upd hx2)) (hp.ext hx2) hi) (fun v w' h => h.elim) (fun ch w' hz => retP_panic rfl ?_)
      exact ⟨fun _ => hk, hz.1, ((hl.ext hx2).ext hz.2).upd⟩
end Go.Proofs

set_option linter.unusedVariables false
set_option linter.unusedSimpArgs false
set_option linter.unnecessarySimpa false
set_option maxRecDepth 10000
namespace Go.Pd
open Go Go.Proofs
variable {P : Program} {r : Option Nat} {n : Nat} {ops : Array Oper} {K : St → World → Prop} {X : List PanicEntry → St → World → Prop} {l : List Oper} {s : St} {w : World} {d : Nat} {ty : TypeId} {p : String} {af : Array Edge} {g : Option (Nat × Bool)}
def CallE (P : Program) (fv : Value) (args : Array Value) (w : World) (R : Value → World → Prop) (Z : List PanicEntry → World → Prop) : Prop :=
  ∃ f fi ca, fv = .func (.func f) fi ca ∧ (∀ w, (callFunc f (fi ++ args ++ ca)).run P w = .ok (.enter f (fi ++ args ++ ca)) w) ∧ Calls P f (fi ++ args ++ ca) w (EndP R Z)
theorem a_fwP {x : Operand} {xs : Array Operand} {ats : Array TypeId} {fv : Value} {args : Array Value} {R : Value → World → Prop} {Z : List PanicEntry → World → Prop} (hc : CallE P fv args w R Z) (hk : ∀ v w', R v w' → OpsL P r n ops K X l (s.set d v) w') (hz : ∀ ch w', Z ch w' → X ch s w') (hw : Region.wanted ⟨some d, .call ⟨.value x, xs, ats⟩, ty, p, af, g⟩ (yieldedE ops n s) = true := by rfl)
    (hx : rd n s x = fv := by rfl) (hargs : xs.toList.map (rd n s) = args.toList := by rfl) : OpsL P r n ops K X (⟨some d, .call ⟨.value x, xs, ats⟩, ty, p, af, g⟩ :: l) s w := by
  refine o_wanted hw ?_
  unfold OpW
  rw [Oper.semAt_eq _ _ _ (fun c e => by cases e)]
  have hargs' : xs.map (rd n s) = args := Array.ext' (by simpa using hargs)
  simp only [execOp, resolve, hargs', hx]
  obtain ⟨f, fi, ca, rfl, h2, h3⟩ := hc
  rw [sem_bind (a := { target := .fn (.func f) ca, args := fi ++ args }) (w' := w) rfl]
  simp only [invoke]
  rw [h2 w]
  refine Calls.mono h3 ?_
  rintro e w' (⟨v, rfl, hR⟩ | ⟨c, rfl, hZ⟩)
  · exact hk v w' hR
  · exact hz c w' hZ
theorem LH.swap {w0 w w' : World} {M : Nat → Prop} {pb : Nat} {o o' : Obj} {rest : List (Nat × Obj)} (h : LH w0 M w ((pb, o) :: rest)) (h2 : LH w (OneB pb) w' [(pb, o')]) : LH w0 M w' ((pb, o') :: rest) := by
  have hnd := h.nd
  simp only [List.map_cons, List.nodup_cons] at hnd
  refine ⟨h.upd.trans h2.upd fun k hk hM => ?_, fun p hp => ?_, fun p hp => ?_, h.nd⟩
  · rw [List.mem_singleton.1 hM] at hk ⊢
    rcases h.fresh (pb, o) List.mem_cons_self with h1 | h1
    · simp only at h1; omega
    · exact h1
  · rcases List.mem_cons.1 hp with rfl | hp
    · exact h2.own _ List.mem_cons_self
    · have hne : ¬ OneB pb p.1 := fun e => hnd.1 (by rw [← List.mem_singleton.1 e]; exact List.mem_map_of_mem hp)
      rw [h2.upd.same p.1 (h.lt (List.mem_cons_of_mem _ hp)) hne]
      exact h.own p (List.mem_cons_of_mem _ hp)
  · rcases List.mem_cons.1 hp with rfl | hp
    · exact h.fresh (pb, o) List.mem_cons_self
    · exact h.fresh p (List.mem_cons_of_mem _ hp)
theorem LH.rest {w w' : World} {pb b : Nat} {o : Obj} {rest : List (Nat × Obj)} (h : LH w (OneB pb) w' ((pb, o) :: rest)) (hb : b ∈ rest.map (·.1)) : w.heap.size ≤ b ∧ b < w'.heap.size := by
  have hnd := h.nd
  simp only [List.map_cons, List.nodup_cons] at hnd
  have hm : b ∈ ((pb, o) :: rest).map (·.1) := List.mem_cons_of_mem _ hb
  refine ⟨(h.id hm).elim (fun h => h) fun e => absurd ?_ hnd.1, h.idlt hm⟩
  rw [← List.mem_singleton.1 e]
  exact hb
theorem LH.one {w0 w : World} {M : Nat → Prop} {pb : Nat} {o : Obj} {rest : List (Nat × Obj)} (h : LH w0 M w ((pb, o) :: rest)) : LH w (OneB pb) w [(pb, o)] := by
  have h1 : LH w0 M w [(pb, o)] := h.sub (by simp)
  exact h1.rb
end Go.Pd
namespace Go.Proofs
open Go Go.Pd Go.Sta
open Go.Lexs (Tok)
attribute [local irreducible] OpsL W RetQ OpsQ OpsC
theorem str_nil : str [] = .string ⟨#[]⟩ := by rw [str_eq]
theorem KR.of_accS {w0 w : World} {M G' : Nat → Prop} {l acc : List (Nat × Obj)} {v : Value} {m : Nat} {ps : List (Sn × Value)} {ks : List Sn} (hl : LH w0 M w (l ++ acc)) (ha : Acc v 4 24 m (ps.flatMap kidS) acc) (he : ps.map (·.1) = ks) (hg : ∀ b, b ∈ acc.map (·.1) → G' b) (h : ∀ p ∈ ps, KR w G' p.1.kids p.2) : KR w G' ks v := by
  refine .mk ps he (hl.acc_sl ha) (fun _ => ?_) h
  rcases ha with ⟨-, ⟨rfl, -, -⟩ | ⟨b, cap, cur, rfl, rfl, -⟩⟩
  · trivial
  · exact fun hn => hn (hg b (by simp))
def Fr (w w' : World) : Nat → Prop := fun b => w.heap.size ≤ b ∧ b < w'.heap.size
def RdV (w : World) (pb : Nat) (tv : Value) (ts : List Tok) (en : Int) (i : Nat) (read : List Tok → Rd Sn) (v : Value) (w' : World) : Prop :=
  ∃ s kv i', v = .agg (snL s kv).toArray ∧ read (ts.drop i) = .ok s (ts.drop i') ∧ i ≤ i' ∧ i' ≤ ts.length ∧ LH w (OneB pb) w' [psB pb tv (i' : Nat) en] ∧ KR w' (Fr w w') s.kids kv
def RdZ (w : World) (pb : Nat) (ts : List Tok) (i : Nat) (read : List Tok → Rd Sn) (ch : List PanicEntry) (w' : World) : Prop := ∃ e a, read (ts.drop i) = .bad e a ∧ ch = faultC e a ∧ Upd (OneB pb) w w'
def RdC (P : Program) (w0 : World) (pb : Nat) (tv : Value) (ts : List Tok) (en : Int) (fv : Value) (n : Nat) (read : List Tok → Rd Sn) : Prop :=
  ∀ w (i : Nat), Upd (OneB pb) w0 w → LH w (OneB pb) w [psB pb tv i en] → i ≤ ts.length → ts.length - i ≤ n → CallE P fv #[] w (RdV w pb tv ts en i read) (RdZ w pb ts i read)
theorem drop_tail (ts : List Tok) (i : Nat) : (ts.drop i).tail = ts.drop (i + 1) := by rw [List.tail_drop]
theorem joinAny_calls (w : World) (lv : Value) (m : Nat) (hlv : ∃ a c, lv = .slice a m c) : CallF Tryz.prog (.func (.func 61) #[] #[]) #[lv] w (fun v w' => v = .agg (snL (.node 9 [] 0 []) lv).toArray ∧ Ext w w') := by
  obtain ⟨a, c, rfl⟩ := hlv
  refine ⟨_, #[], #[], rfl, fun _ => rfl, ?_⟩
  show Calls Tryz.prog _ #[.slice a m c] w _
  refine calls_of Tryz.func61 rfl Tryz.ntmps61 rfl ?_
  refine wk_seq fun K hK => ?_
  refine wk_reg ?_
  refine o_alloc (LH.start w (fun _ => False)) [.int .i64 0, .string "".toByteArray, .int .i64 0, .slice none 0 0] (by kernel_rfl) rfl ?_
  intro b2 w1 hb2 hl
  repeat' (first | refine a_mov ?_ | refine a_asg ?_ | refine a_binN ?_ | refine a_notd ?_ | refine a_notb ?_ | refine a_nilc ?_ | refine a_fa ?_ | refine a_ext ?_ | refine a_lenv ?_ | refine a_lens ?_ | refine a_pick_t ?_ | refine a_pick_f ?_ | refine a_not ?_ | refine a_nilf ?_ | (refine o_nil (hK _ _ ?_); clear hK K) | refine wk_reg ?_ | refine wk_seq fun K hK => ?_ | (refine wk_skip (hK _ _ ?_); clear hK K) | (refine wk_label (hK _ _ ?_); clear hK K) | refine wk_scope ?_ | refine wk_block ?_ | refine wk_cond_t rfl ?_ | refine wk_cond_f rfl ?_ | (refine wk_exit ?_; (repeat (refine blockK_other rfl ?_)); refine blockK_same ?_; try ((repeat ((fail_if_success (refine hK _ _ ?_)); clear hK K)); refine hK _ _ ?_; clear hK K)) | (refine a_bin ?_ ?_ <;> intro _ <;> try (exfalso; omega)) | refine a_ld hl ?_ | (refine a_st hl ?_; clear hl; intro _ hl) | refine a_ix (fun _ => ?_) | fail)
  refine o_build [.int .i64 9, .string ⟨#[]⟩, .int .i64 0, .slice a m c] rfl rfl ?_
  refine o_putN (us := [.int .i64 9, .string ⟨#[]⟩, .int .i64 0, .slice a m c]) hl rfl rfl rfl rfl rfl (.here rfl rfl) ?_
  clear hl
  intro w2 hl
  repeat' (first | refine a_mov ?_ | refine a_asg ?_ | refine a_binN ?_ | refine a_notd ?_ | refine a_notb ?_ | refine a_nilc ?_ | refine a_fa ?_ | refine a_ext ?_ | refine a_lenv ?_ | refine a_lens ?_ | refine a_pick_t ?_ | refine a_pick_f ?_ | refine a_not ?_ | refine a_nilf ?_ | (refine o_nil (hK _ _ ?_); clear hK K) | refine wk_reg ?_ | refine wk_seq fun K hK => ?_ | (refine wk_skip (hK _ _ ?_); clear hK K) | (refine wk_label (hK _ _ ?_); clear hK K) | refine wk_scope ?_ | refine wk_block ?_ | refine wk_cond_t rfl ?_ | refine wk_cond_f rfl ?_ | (refine wk_exit ?_; (repeat (refine blockK_other rfl ?_)); refine blockK_same ?_; try ((repeat ((fail_if_success (refine hK _ _ ?_)); clear hK K)); refine hK _ _ ?_; clear hK K)) | (refine a_bin ?_ ?_ <;> intro _ <;> try (exfalso; omega)) | refine a_ld hl ?_ | (refine a_st hl ?_; clear hl; intro _ hl) | refine a_ix (fun _ => ?_) | fail)
  refine wk_ret (retQ_res [.agg #[.int .i64 9, .string ⟨#[]⟩, .int .i64 0, .slice a m c]] rfl rfl ⟨by decide, ⟨⟨b2, 0, none⟩, rfl, run_loadVarN rfl rfl (hl.rowL (vs := [.int .i64 9, .string ⟨#[]⟩, .int .i64 0, .slice a m c]) 0 0 4 rfl)⟩, trivial⟩ ⟨?_, hl.done⟩)
  simp only [snL, Sn.op, Sn.name, Sn.day, str_nil]
  rfl
theorem joinAll_calls (w : World) (lv : Value) (m : Nat) (hlv : ∃ a c, lv = .slice a m c) : CallF Tryz.prog (.func (.func 60) #[] #[]) #[lv] w (fun v w' => v = .agg (snL (.node 8 [] 0 []) lv).toArray ∧ Ext w w') := by
  obtain ⟨a, c, rfl⟩ := hlv
  refine ⟨_, #[], #[], rfl, fun _ => rfl, ?_⟩
  show Calls Tryz.prog _ #[.slice a m c] w _
  refine calls_of Tryz.func60 rfl Tryz.ntmps60 rfl ?_
  refine wk_seq fun K hK => ?_
  refine wk_reg ?_
  refine o_alloc (LH.start w (fun _ => False)) [.int .i64 0, .string "".toByteArray, .int .i64 0, .slice none 0 0] (by kernel_rfl) rfl ?_
  intro b2 w1 hb2 hl
  repeat' (first | refine a_mov ?_ | refine a_asg ?_ | refine a_binN ?_ | refine a_notd ?_ | refine a_notb ?_ | refine a_nilc ?_ | refine a_fa ?_ | refine a_ext ?_ | refine a_lenv ?_ | refine a_lens ?_ | refine a_pick_t ?_ | refine a_pick_f ?_ | refine a_not ?_ | refine a_nilf ?_ | (refine o_nil (hK _ _ ?_); clear hK K) | refine wk_reg ?_ | refine wk_seq fun K hK => ?_ | (refine wk_skip (hK _ _ ?_); clear hK K) | (refine wk_label (hK _ _ ?_); clear hK K) | refine wk_scope ?_ | refine wk_block ?_ | refine wk_cond_t rfl ?_ | refine wk_cond_f rfl ?_ | (refine wk_exit ?_; (repeat (refine blockK_other rfl ?_)); refine blockK_same ?_; try ((repeat ((fail_if_success (refine hK _ _ ?_)); clear hK K)); refine hK _ _ ?_; clear hK K)) | (refine a_bin ?_ ?_ <;> intro _ <;> try (exfalso; omega)) | refine a_ld hl ?_ | (refine a_st hl ?_; clear hl; intro _ hl) | refine a_ix (fun _ => ?_) | fail)
  refine o_build [.int .i64 8, .string ⟨#[]⟩, .int .i64 0, .slice a m c] rfl rfl ?_
  refine o_putN (us := [.int .i64 8, .string ⟨#[]⟩, .int .i64 0, .slice a m c]) hl rfl rfl rfl rfl rfl (.here rfl rfl) ?_
  clear hl
  intro w2 hl
  repeat' (first | refine a_mov ?_ | refine a_asg ?_ | refine a_binN ?_ | refine a_notd ?_ | refine a_notb ?_ | refine a_nilc ?_ | refine a_fa ?_ | refine a_ext ?_ | refine a_lenv ?_ | refine a_lens ?_ | refine a_pick_t ?_ | refine a_pick_f ?_ | refine a_not ?_ | refine a_nilf ?_ | (refine o_nil (hK _ _ ?_); clear hK K) | refine wk_reg ?_ | refine wk_seq fun K hK => ?_ | (refine wk_skip (hK _ _ ?_); clear hK K) | (refine wk_label (hK _ _ ?_); clear hK K) | refine wk_scope ?_ | refine wk_block ?_ | refine wk_cond_t rfl ?_ | refine wk_cond_f rfl ?_ | (refine wk_exit ?_; (repeat (refine blockK_other rfl ?_)); refine blockK_same ?_; try ((repeat ((fail_if_success (refine hK _ _ ?_)); clear hK K)); refine hK _ _ ?_; clear hK K)) | (refine a_bin ?_ ?_ <;> intro _ <;> try (exfalso; omega)) | refine a_ld hl ?_ | (refine a_st hl ?_; clear hl; intro _ hl) | refine a_ix (fun _ => ?_) | fail)
  refine wk_ret (retQ_res [.agg #[.int .i64 8, .string ⟨#[]⟩, .int .i64 0, .slice a m c]] rfl rfl ⟨by decide, ⟨⟨b2, 0, none⟩, rfl, run_loadVarN rfl rfl (hl.rowL (vs := [.int .i64 8, .string ⟨#[]⟩, .int .i64 0, .slice a m c]) 0 0 4 rfl)⟩, trivial⟩ ⟨?_, hl.done⟩)
  simp only [snL, Sn.op, Sn.name, Sn.day, str_nil]
  rfl
def FrN (w w' : World) (l : List (Nat × Obj)) : Nat → Prop := fun b => w.heap.size ≤ b ∧ b < w'.heap.size ∧ b ∉ l.map (·.1)
theorem KR.grow {w w6 w7 : World} {l6 l7 : List (Nat × Obj)} {ks : List Sn} {kv : Value} (h7 : LH w6 (fun b => b ∈ l6.map (·.1)) w7 l7) (h : KR w6 (FrN w w6 l6) ks kv) : KR w7 (FrN w w7 l7) ks kv := by
  refine (h.upd h7.upd fun b hb => hb.2.2).mono fun b hb => ⟨hb.1, Nat.lt_of_lt_of_le hb.2.1 h7.upd.size, fun hm => ?_⟩
  rcases h7.id hm with h1 | h1
  · have := hb.2.1; omega
  · exact hb.2.2 h1
theorem KR.newN {w w4 w5 : World} {M : Nat → Prop} {l4 l5 : List (Nat × Obj)} {ks : List Sn} {kv : Value} (h4 : LH w M w4 l4) (hs : w.heap.size ≤ w4.heap.size) (hkeys : l5.map (·.1) = l4.map (·.1)) (h : KR w5 (Fr w4 w5) ks kv) : KR w5 (FrN w w5 l5) ks kv := by
  refine h.mono fun b hb => ⟨Nat.le_trans hs hb.1, hb.2, fun hm => ?_⟩
  rw [hkeys] at hm
  have := h4.idlt hm
  have := hb.1
  omega
theorem sevTail_yes {w : Tx} {read : List Tok → Rd Sn} {f : Nat} {acc : List Sn} {ts : List Tok} (h : isT w ts = true) (hf : ts.length ≤ f) : ∃ g, f = g + 1 ∧ sevTail w read f acc ts = match read ts.tail with | .ok x r => sevTail w read g (acc ++ [x]) r | .bad e a => .bad e a := by
  obtain ⟨t, r, rfl⟩ := isT_ne h
  cases f with
  | zero => simp at hf
  | succ g => exact ⟨g, rfl, by simp only [sevTail]; rw [h, if_pos rfl]; cases read (t :: r).tail <;> rfl⟩
set_option maxHeartbeats 4000000 in
theorem several_calls {w00 : World} {pb : Nat} {tv fv jf : Value} {ts : List Tok} {en op : Int} {n : Nat} {wd : Tx} {read : List Tok → Rd Sn} (hread : RdC Tryz.prog w00 pb tv ts en fv n read) (hT : TK w00 pb tv ts)
    (hj : ∀ (w : World) (lv : Value) (m : Nat), (∃ a c, lv = .slice a m c) → CallF Tryz.prog jf #[lv] w (fun v w' => v = .agg (snL (.node op [] 0 []) lv).toArray ∧ Ext w w')) {w : World} {i0 : Nat} (h0 : Upd (OneB pb) w00 w) (hl : LH w (OneB pb) w [psB pb tv i0 en]) (hi0 : i0 ≤ ts.length) (hn : ts.length - i0 ≤ n) :
    Calls Tryz.prog 58 #[.pointer (some ⟨pb, 0, none⟩), str wd, fv, jf] w (EndP (RdV w pb tv ts en i0 (sev wd op read)) (RdZ w pb ts i0 (sev wd op read))) := by
  have hlen := hT.2.2
  refine calls_ofP Tryz.func58 rfl Tryz.ntmps58 rfl ?_
  refine wk_seq fun K hK => ?_
  refine wk_reg ?_
  refine o_alloc hl [.int .i64 0, .string "".toByteArray, .int .i64 0, .slice none 0 0] (by kernel_rfl) rfl ?_
  clear hl
  intro b8 w1 hb8 hl
  replace hl := hl.perm (List.Perm.swap _ _ [])
  have hu1 := hl.upd
  refine o_nil (hK _ _ ?_)
  clear hK K
  refine wk_seq fun K hK => ?_
  refine wk_reg ?_
  refine a_mov ?_
  refine a_fwP (hread w1 i0 (h0.trans hu1 fun k hk hM => hM) hl.one hi0 hn) ?_ ?_
  rotate_left
  · rintro ch w2 ⟨e, a, hr, rfl, hu⟩
    refine retP_panic rfl ⟨e, a, ?_, rfl, hu1.trans hu fun k hk hM => hM⟩
    unfold sev
    rw [hr]
  rintro _ w2 ⟨s0, kv0, i, rfl, hr0, hi, hi2, hl2, hk0⟩
  have hl0 := hl
  replace hl := hl.swap hl2
  obtain ⟨ka, kc, rfl, -⟩ := hk0.shape
  have hk2 : KR w2 (FrN w w2 (psB pb tv i en :: (b8, Obj.cells #[.int .i64 0, .string "".toByteArray, .int .i64 0, .slice none 0 0] 24 (0, 0)) :: [])) s0.kids (.slice ka s0.kids.length kc) := KR.newN hl0 hu1.size rfl hk0
  refine o_buildSlice hl.rb (snL s0 (.slice ka s0.kids.length kc)) rfl rfl (by kernel_rfl) ?_
  intro bb w3 hbb hl3
  replace hl3 := hl3.perm (List.perm_append_comm (l₁ := [_]))
  have hk3 := KR.grow hl3 hk2
  replace hl := hl.bk hl3
  clear hl3 hk2 hk0
  refine a_asg ?_
  refine o_nil (hK _ _ ?_)
  clear hK K
  refine wk_seq fun K hK => ?_
  have hr0' : ∀ l r, sevTail wd read (ts.drop i).length [s0] (ts.drop i) = .ok l r → sev wd op read (ts.drop i0) = .ok (joinS op l) r := fun l r h => by
    unfold sev
    rw [hr0]
    simp only
    rw [h]
  have hr0b : ∀ e a, sevTail wd read (ts.drop i).length [s0] (ts.drop i) = .bad e a → sev wd op read (ts.drop i0) = .bad e a := fun e a h => by
    unfold sev
    rw [hr0]
    simp only
    rw [h]
  generalize hst : sevTail wd read (ts.drop i).length [s0] (ts.drop i) = R at hr0' hr0b
  refine wk_block ?_
  refine wk_loopH [] rfl (fun q : List (Sn × Value) × Nat × List (Nat × Obj) × Value => [(0, .pointer (some ⟨pb, 0, none⟩)), (1, str wd), (2, fv), (3, jf), (8, .pointer (some ⟨b8, 0, none⟩)), (9, q.2.2.2)])
    (fun q w' => (i0 ≤ q.2.1 ∧ q.2.1 ≤ ts.length ∧ 1 ≤ q.1.length ∧ q.1.length ≤ q.2.1 + 1 ∧ ∃ f, (ts.drop q.2.1).length ≤ f ∧ sevTail wd read f (q.1.map (·.1)) (ts.drop q.2.1) = R) ∧ LH w (OneB pb) w' (psB pb tv q.2.1 en :: (b8, Obj.cells #[.int .i64 0, .string "".toByteArray, .int .i64 0, .slice none 0 0] 24 (0, 0)) :: q.2.2.1) ∧ Acc q.2.2.2 4 24 q.1.length (q.1.flatMap kidS) q.2.2.1 ∧ ∀ p ∈ q.1, KR w' (FrN w w' (psB pb tv q.2.1 en :: (b8, Obj.cells #[.int .i64 0, .string "".toByteArray, .int .i64 0, .slice none 0 0] 24 (0, 0)) :: q.2.2.1)) p.1.kids p.2)
    (fun q => ts.length - q.2.1) ([(s0, .slice ka s0.kids.length kc)], i, [(bb, .cells (snL s0 (.slice ka s0.kids.length kc)).toArray 24 (0, 0))], .slice (some ⟨bb, 0, none⟩) 1 1) ⟨rfl, rfl, rfl, rfl, rfl, rfl, trivial⟩ ⟨⟨hi, hi2, Nat.le_refl _, by simp, _, Nat.le_refl _, hst⟩, hl, ⟨rfl, .inr ⟨bb, 1, _, rfl, rfl, Nat.le_refl _, by decide, rfl, rfl⟩⟩, fun p hp => by rw [List.mem_singleton.1 hp]; exact hk3⟩ ?_
  clear hl hk3 hst hr0
  rintro ⟨ps, i, acc, v⟩ t w4 ⟨⟨hi, hi2, hp1, hp2, f, hf, hst⟩, hl, ha, hkr⟩
  simp only at hi hi2 hp1 hp2 hf hst hl ha hkr
  have hTw := hT.upd (h0.trans hl.upd fun k hk hM => hM)
  refine wk_seq fun K1 hK1 => ?_
  refine wk_seq fun K2 hK2 => ?_
  refine wk_reg ?_
  repeat' (first | refine a_mov ?_ | refine a_asg ?_ | refine a_binN ?_ | refine a_notd ?_ | refine a_notb ?_ | refine a_nilc ?_ | refine a_fa ?_ | refine a_ext ?_ | refine a_lenv ?_ | refine a_lens ?_ | refine a_pick_t ?_ | refine a_pick_f ?_ | refine a_not ?_ | refine a_nilf ?_ | (refine a_bin ?_ ?_ <;> intro _ <;> try (exfalso; omega)) | refine a_ld hl ?_ | (refine a_st hl ?_; clear hl; intro _ hl) | refine a_ix (fun _ => ?_) | fail)
  refine a_fn (is_calls (wd := wd) hTw hl.one hi2) ?_
  rintro _ w5 ⟨rfl, hl5⟩
  have hsw := hl.rb.swap hl5
  have hkr5 : ∀ p ∈ ps, _ := fun p hp => KR.grow hsw (hkr p hp)
  have hlo := hl
  replace hl := hl.swap hl5
  refine o_nil (hK2 _ _ ?_)
  clear hK2 K2 hl5 hsw
  cases hb : isT wd (ts.drop i)
  · rw [hb, if_neg (by decide)] at hl hkr5
    refine wk_cond_f rfl ?_
    refine wk_exit ?_
    refine blockK_same ?_
    refine hK _ _ ?_
    clear hK1 K1 hlo
    clear hK K
    have hR : R = .ok (ps.map (·.1)) (ts.drop i) := by rw [← hst]; exact sevTail_no hb _ _
    have hsev := hr0' _ _ hR
    obtain ⟨va, vc, rfl⟩ := ha.shape
    have hfr : ∀ {w' : World}, Ext w5 w' → ∀ p ∈ ps, KR w' (Fr w w') p.1.kids p.2 := fun hx p hp => ((hkr5 p hp).ext hx).mono fun b hb => ⟨hb.1, Nat.lt_of_lt_of_le hb.2.1 hx.size⟩
    refine wk_seq fun K hK => ?_
    refine wk_seq fun K2 hK2 => ?_
    refine wk_reg ?_
    have hTK : LH w (OneB pb) w5 [psB pb tv i en] := hl.sub (List.cons_sublist_cons.2 (List.nil_sublist _))
    by_cases h1 : ps.length = 1
    · obtain ⟨x, rfl⟩ := List.length_eq_one_iff.1 h1
      repeat' (first | refine a_mov ?_ | refine a_asg ?_ | refine a_binN ?_ | refine a_notd ?_ | refine a_notb ?_ | refine a_nilc ?_ | refine a_fa ?_ | refine a_ext ?_ | refine a_lenv ?_ | refine a_lens ?_ | refine a_pick_t ?_ | refine a_pick_f ?_ | refine a_not ?_ | refine a_nilf ?_ | (refine a_bin ?_ ?_ <;> intro _ <;> try (exfalso; omega)) | refine a_ld hl ?_ | (refine a_st hl ?_; clear hl; intro _ hl) | refine a_ix (fun _ => ?_) | fail)
      refine o_nil (hK2 _ _ ?_)
      clear hK2 K2
      refine wk_cond_t rfl ?_
      refine wk_seq fun K3 hK3 => ?_
      refine wk_reg ?_
      have hsl := LH.acc_sl (l := [psB pb tv i en, (b8, _)]) hl ha
      obtain ⟨b, o, rfl, hr⟩ := hsl.at (by rw [kidS_flat]) (by decide) (Nat.zero_lt_one)
      have hrx : Row w5 b (o + 0 * 4) (snL x.1 x.2) := by simpa [kidS] using hr
      have hkx := hkr5 x List.mem_cons_self
      refine a_mov ?_
      refine a_idx (c := 4) 0 rfl ?_
      refine a_all hrx ?_
      refine o_putN (us := snL x.1 x.2) hl.rb rfl rfl rfl (snL_one hkx) rfl (.there (.here rfl rfl)) ?_
      intro w8 hl8
      have hk8 := KR.grow (l6 := (psB pb tv i en :: (b8, Obj.cells #[.int .i64 0, .string "".toByteArray, .int .i64 0, .slice none 0 0] 24 (0, 0)) :: acc)) hl8 hkx
      replace hl := hl.bk hl8
      refine o_nil (hK3 _ _ ?_)
      clear hK3 K3
      refine wk_ret (retP_of (retQ_res [.agg (snL x.1 x.2).toArray] rfl rfl ⟨by decide, ⟨⟨b8, 0, none⟩, rfl, run_loadVarN rfl rfl (hl.rowL (vs := snL x.1 x.2) 1 0 4 rfl)⟩, trivial⟩ ?_) rfl)
      exact ⟨x.1, x.2, i, rfl, hsev, hi, hi2, hl.sub (List.cons_sublist_cons.2 (List.nil_sublist _)), hk8.mono fun b hb => ⟨hb.1, hb.2.1⟩⟩
    · repeat' (first | refine a_mov ?_ | refine a_asg ?_ | refine a_binN ?_ | refine a_notd ?_ | refine a_notb ?_ | refine a_nilc ?_ | refine a_fa ?_ | refine a_ext ?_ | refine a_lenv ?_ | refine a_lens ?_ | refine a_pick_t ?_ | refine a_pick_f ?_ | refine a_not ?_ | refine a_nilf ?_ | (refine a_bin ?_ ?_ <;> intro _ <;> try (exfalso; omega)) | refine a_ld hl ?_ | (refine a_st hl ?_; clear hl; intro _ hl) | refine a_ix (fun _ => ?_) | fail)
      refine o_nil (hK2 _ _ ?_)
      clear hK2 K2
      refine wk_cond_f rfl ?_
      refine wk_skip (hK _ _ ?_)
      clear hK K
      refine wk_seq fun K hK => ?_
      refine wk_reg ?_
      refine a_mov ?_
      refine a_mov ?_
      refine a_fw (hj w5 (.slice va ps.length vc) ps.length ⟨_, _, rfl⟩) ?_
      rintro _ w6 ⟨rfl, hx6⟩
      replace hl := hl.ext hx6
      have hkr6 : ∀ p ∈ ps, KR w6 (FrN w w6 (psB pb tv i en :: (b8, Obj.cells #[.int .i64 0, .string "".toByteArray, .int .i64 0, .slice none 0 0] 24 (0, 0)) :: acc)) p.1.kids p.2 := fun p hp => ((hkr5 p hp).ext hx6).mono fun b hb => ⟨hb.1, Nat.lt_of_lt_of_le hb.2.1 hx6.size, hb.2.2⟩
      refine o_putN (us := snL (.node op [] 0 []) (.slice va ps.length vc)) hl.rb rfl rfl rfl (by simp only [snL, List.all_cons, List.all_nil, oneCell_str]; rfl) rfl (.there (.here rfl rfl)) ?_
      intro w8 hl8
      have hkr8 : ∀ p ∈ ps, _ := fun p hp => KR.grow (l6 := (psB pb tv i en :: (b8, Obj.cells #[.int .i64 0, .string "".toByteArray, .int .i64 0, .slice none 0 0] 24 (0, 0)) :: acc)) hl8 (hkr6 p hp)
      replace hl := hl.bk hl8
      refine o_nil (hK _ _ ?_)
      clear hK K
      refine wk_ret (retP_of (retQ_res [.agg (snL (.node op [] 0 []) (.slice va ps.length vc)).toArray] rfl rfl ⟨by decide, ⟨⟨b8, 0, none⟩, rfl, run_loadVarN rfl rfl (hl.rowL (vs := snL (.node op [] 0 []) (.slice va ps.length vc)) 1 0 4 rfl)⟩, trivial⟩ ?_) rfl)
      refine ⟨joinS op (ps.map (·.1)), .slice va ps.length vc, i, ?_, hsev, hi, hi2, hl.sub (List.cons_sublist_cons.2 (List.nil_sublist _)), ?_⟩
      · have hjs : joinS op (ps.map (·.1)) = .node op [] 0 (ps.map (·.1)) := by
          match ps, hp1, h1 with
          | x :: y :: l, _, _ => rfl
        rw [hjs]
        rfl
      · have hjs : (joinS op (ps.map (·.1))).kids = ps.map (·.1) := by
          match ps, hp1, h1 with
          | x :: y :: l, _, _ => rfl
        rw [hjs]
        exact KR.of_accS (l := [psB pb tv i en, (b8, _)]) hl ha rfl (fun b hb => hl.rest (List.mem_cons_of_mem _ hb)) (fun p hp => (hkr8 p hp).mono fun b hb => ⟨hb.1, hb.2.1⟩)
  · rw [hb, if_pos rfl] at hl hkr5
    obtain ⟨g, rfl, hst2⟩ := sevTail_yes (read := read) (acc := ps.map (·.1)) hb hf
    have hlt : i < ts.length := by
      obtain ⟨t0, r0, h1⟩ := isT_ne hb
      have := congrArg List.length h1
      simp at this
      omega
    rw [drop_tail] at hst2
    rw [hst2] at hst
    clear hst2
    refine wk_cond_t rfl ?_
    refine wk_skip (hK1 _ _ ?_)
    clear hK1 K1 hlo
    refine wk_block ?_
    refine wk_reg ?_
    refine a_mov ?_
    refine a_mov ?_
    have hu5 := h0.trans hl.upd fun k hk hM => hM
    refine a_fwP (hread w5 (i + 1) hu5 hl.one hlt (by omega)) ?_ ?_
    rotate_left
    · rintro ch w6 ⟨e, a, hr, rfl, hu⟩
      refine retP_panic rfl ⟨e, a, hr0b _ _ ?_, rfl, hl.upd.trans hu fun k hk hM => hM⟩
      rw [hr] at hst
      exact hst.symm
    rintro _ w6 ⟨s1, kv1, j, rfl, hr1, hj1, hj2, hl6, hk1⟩
    have hsw := hl.rb.swap hl6
    have hkr6 : ∀ p ∈ ps, _ := fun p hp => KR.grow hsw (hkr5 p hp)
    have hk6 : KR w6 (FrN w w6 (psB pb tv j en :: (b8, Obj.cells #[.int .i64 0, .string "".toByteArray, .int .i64 0, .slice none 0 0] 24 (0, 0)) :: acc)) s1.kids kv1 := KR.newN hl hl.upd.size rfl hk1
    have hl6s := hl.bk hsw
    clear hsw hl6
    obtain ⟨ka1, kc1, rfl, -⟩ := hk1.shape
    have hone := snL_one hk1
    refine o_buildSlice hl6s.rb (snL s1 (.slice ka1 s1.kids.length kc1)) rfl rfl (by kernel_rfl) ?_
    intro bq w7 hbq hl7
    have hdrop : ∀ b, FrN w w7 ((bq, Obj.cells (snL s1 (.slice ka1 s1.kids.length kc1)).toArray 24 (0, 0)) :: (psB pb tv j en :: (b8, Obj.cells #[.int .i64 0, .string "".toByteArray, .int .i64 0, .slice none 0 0] 24 (0, 0)) :: acc)) b → FrN w w7 (psB pb tv j en :: (b8, Obj.cells #[.int .i64 0, .string "".toByteArray, .int .i64 0, .slice none 0 0] 24 (0, 0)) :: acc) b := fun b hb => ⟨hb.1, hb.2.1, fun hm => hb.2.2 (List.mem_cons_of_mem _ hm)⟩
    have hkr7 : ∀ p ∈ ps, _ := fun p hp => (KR.grow hl7 (hkr6 p hp)).mono hdrop
    have hk7 := (KR.grow hl7 hk6).mono hdrop
    have hl8 := hl6s.bk hl7
    have hrow : Row w7 bq 0 (snL s1 (.slice ka1 s1.kids.length kc1)) := hl8.rowL (vs := snL s1 (.slice ka1 s1.kids.length kc1)) 0 0 4 rfl
    have hl9 := hl8.sub (List.sublist_cons_self _ _)
    clear hl8 hl7 hk6 hkr6 hl6s
    refine o_append (bl' := [psB pb tv j en, (b8, _)]) (bytes := 56) (q := 1) hl9.rb ha hrow rfl hone (by decide) (by omega) (by omega) rfl rfl (by kernel_rfl) rfl rfl ?_
    intro v' w10 acc' hl10 ha'
    have hkr10 : ∀ p ∈ ps, _ := fun p hp => KR.grow (l6 := (psB pb tv j en :: (b8, Obj.cells #[.int .i64 0, .string "".toByteArray, .int .i64 0, .slice none 0 0] 24 (0, 0)) :: acc)) hl10 (hkr7 p hp)
    have hk10 := KR.grow (l6 := (psB pb tv j en :: (b8, Obj.cells #[.int .i64 0, .string "".toByteArray, .int .i64 0, .slice none 0 0] 24 (0, 0)) :: acc)) hl10 hk7
    have hl11 := hl9.bk hl10
    refine a_asg ?_
    rw [hr1] at hst
    simp only at hst
    refine o_nil ⟨(ps ++ [(s1, .slice ka1 s1.kids.length kc1)], j, acc', v'), ⟨rfl, rfl, rfl, rfl, rfl, rfl, trivial⟩, rfl, ⟨⟨by simp only; omega, hj2, by simp, by simp; omega, g, ?_, ?_⟩, hl11, ?_, ?_⟩, by simp only; omega⟩
    · simp only [List.length_drop] at hf ⊢
      omega
    · simp only [List.map_append, List.map_cons, List.map_nil]
      exact hst
    · simp only [List.length_append, List.length_cons, List.length_nil, List.flatMap_append, List.flatMap_cons, List.flatMap_nil, List.append_nil]
      exact ha'
    · intro p hp
      rcases List.mem_append.1 hp with hp | hp
      · exact hkr10 p hp
      · rw [List.mem_singleton.1 hp]; exact hk10
end Go.Proofs

set_option linter.unusedVariables false
set_option linter.unusedSimpArgs false
set_option linter.unnecessarySimpa false
set_option maxRecDepth 10000
namespace Go.Proofs
open Go Go.Pd Go.Sta
open Go.Lexs (Tok)
attribute [local irreducible] OpsL W RetQ OpsQ OpsC
def wordV : List (Tx × Value) := wordL.map fun p => (p.1, .int .i64 p.2)
theorem words_calls (w : World) : Calls Tryz.prog 47 #[] w (fun e w' => ∃ v, e = .returned v ∧ ∃ b es c, v = .map (some b) ∧ LH w (fun _ => False) w' [(b, .map es c)] ∧ MapB str es c wordV) := by
  refine calls_of Tryz.func47 rfl Tryz.ntmps47 rfl ?_
  refine wk_seq fun K hK => ?_
  refine wk_reg ?_
  refine a_asg ?_
  refine o_nil (hK _ _ ?_)
  clear hK K
  refine wk_seq fun K hK => ?_
  refine wk_reg ?_
  refine o_makeMap (LH.start w (fun _ => False)) rfl ?_
  intro b w0 hb hl
  refine o_insertB (a := wordL[0].1) (v := .int .i64 1) hl 0 rfl (MapB.nil 0) (by decide) (key_str rfl) rfl rfl rfl (by simp only [str_eq]; rfl) rfl ?_
  clear hl
  intro w1 es1 m1 hl
  refine o_insertB (a := wordL[1].1) (v := .int .i64 2) hl 0 rfl m1 (by decide) (key_str rfl) rfl rfl rfl (by simp only [str_eq]; rfl) rfl ?_
  clear hl
  intro w2 es2 m2 hl
  refine o_insertB (a := wordL[2].1) (v := .int .i64 3) hl 0 rfl m2 (by decide) (key_str rfl) rfl rfl rfl (by simp only [str_eq]; rfl) rfl ?_
  clear hl
  intro w3 es3 m3 hl
  refine o_insertB (a := wordL[3].1) (v := .int .i64 4) hl 0 rfl m3 (by decide) (key_str rfl) rfl rfl rfl (by simp only [str_eq]; rfl) rfl ?_
  clear hl
  intro w4 es4 m4 hl
  refine o_insertB (a := wordL[4].1) (v := .int .i64 5) hl 0 rfl m4 (by decide) (key_str rfl) rfl rfl rfl (by simp only [str_eq]; rfl) rfl ?_
  clear hl
  intro w5 es5 m5 hl
  refine o_insertB (a := wordL[5].1) (v := .int .i64 6) hl 0 rfl m5 (by decide) (key_str rfl) rfl rfl rfl (by simp only [str_eq]; rfl) rfl ?_
  clear hl
  intro w6 es6 m6 hl
  refine o_insertB (a := wordL[6].1) (v := .int .i64 7) hl 0 rfl m6 (by decide) (key_str rfl) rfl rfl rfl (by simp only [str_eq]; rfl) rfl ?_
  clear hl
  intro w7 es7 m7 hl
  refine a_mov ?_
  refine a_asg ?_
  refine o_nil (hK _ _ ?_)
  clear hK K
  refine wk_ret (retQ_tmp1 Tryz.results47 (by decide) rfl (by conv => lhs; whnf) ?_)
  exact ⟨b, es7, _, rfl, hl, m7⟩
def oneV (pb : Nat) : Value := .func (.func 59) #[.pointer (some ⟨pb, 0, none⟩)] #[]
def OneC (n : Nat) : Prop := ∀ (w0 : World) (pb : Nat) (tv : Value) (ts : List Tok) (en : Int), TK w0 pb tv ts → RdC Tryz.prog w0 pb tv ts en (oneV pb) n (pOne en (n + 1))
theorem all_calls {n : Nat} (h1 : OneC n) {w0 : World} {pb b1 : Nat} {tv : Value} {ts : List Tok} {en : Int} (hT : TK w0 pb tv ts) (hb : Row w0 b1 0 [.pointer (some ⟨pb, 0, none⟩)]) (hne : b1 ≠ pb) : RdC Tryz.prog w0 pb tv ts en (.func (.func 57) #[] #[.pointer (some ⟨b1, 0, none⟩)]) n (pAll en (n + 1)) := by
  intro w i hu hl hi hn
  refine ⟨_, #[], _, rfl, fun _ => rfl, ?_⟩
  show Calls Tryz.prog _ #[.pointer (some ⟨b1, 0, none⟩)] w _
  have hbw : Row w b1 0 [.pointer (some ⟨pb, 0, none⟩)] := hb.upd hu (by simpa [OneB] using hne)
  have hTw := hT.upd hu
  refine calls_ofP Tryz.func57 rfl Tryz.ntmps57 rfl ?_
  refine wk_seq fun K hK => ?_
  refine wk_reg ?_
  refine o_alloc hl [.int .i64 0, .string "".toByteArray, .int .i64 0, .slice none 0 0] (by kernel_rfl) rfl ?_
  clear hl
  intro b2 w1 hb2 hl
  replace hl := hl.perm (List.Perm.swap _ _ [])
  have hu1 := hl.upd
  have hb1 := hbw.upd hu1 (by simpa [OneB] using hne)
  refine o_nil (hK _ _ ?_)
  clear hK K
  refine wk_seq fun K hK => ?_
  refine wk_reg ?_
  refine a_row hb1 ?_
  refine a_row hb1 ?_
  refine o_mf [.pointer (some ⟨pb, 0, none⟩)] [] rfl rfl rfl ?_
  have hT1 := hTw.upd hu1
  refine a_fnP (several_calls (wd := kAnd) (op := 8) (h1 w1 pb tv ts en hT1) hT1 (fun w lv m h => joinAll_calls w lv m h) (.refl _ _) hl.one hi hn) ?_ ?_ rfl (fun _ => rfl) (by simp only [kAnd, str_eq]; rfl)
  rotate_left
  · rintro ch w2 ⟨e, a, hr, rfl, hu2⟩
    exact retP_panic rfl ⟨e, a, hr, rfl, hu1.trans hu2 fun k hk hM => hM⟩
  rintro _ w2 ⟨s0, kv0, j, rfl, hr0, hj, hj2, hl2, hk0⟩
  have hl0 := hl
  replace hl := hl.swap hl2
  have hk2 : KR w2 (FrN w w2 [psB pb tv j en, (b2, Obj.cells #[.int .i64 0, .string "".toByteArray, .int .i64 0, .slice none 0 0] 24 (0, 0))]) s0.kids kv0 := KR.newN hl0 hu1.size rfl hk0
  refine o_putN (us := snL s0 kv0) hl.rb rfl rfl rfl (snL_one hk0) rfl (.there (.here rfl rfl)) ?_
  intro w3 hl3
  have hk3 := KR.grow (l6 := [_, _]) hl3 hk2
  replace hl := hl.bk hl3
  refine o_nil (hK _ _ ?_)
  clear hK K
  refine wk_ret (retP_of (retQ_res [.agg (snL s0 kv0).toArray] rfl rfl ⟨by decide, ⟨⟨b2, 0, none⟩, rfl, run_loadVarN rfl rfl (hl.rowL (vs := snL s0 kv0) 1 0 4 rfl)⟩, trivial⟩ ?_) rfl)
  exact ⟨s0, kv0, j, rfl, hr0, hj, hj2, hl.sub (List.cons_sublist_cons.2 (List.nil_sublist _)), hk3.mono fun b hb => ⟨hb.1, hb.2.1⟩⟩
theorem start_calls {n : Nat} (h1 : OneC n) {w : World} {pb i : Nat} {tv : Value} {ts : List Tok} {en : Int} (hT : TK w pb tv ts) (hl : LH w (OneB pb) w [psB pb tv i en]) (hi : i ≤ ts.length) (hn : ts.length - i ≤ n) :
    Calls Tryz.prog 29 #[.pointer (some ⟨pb, 0, none⟩)] w (EndP (RdV w pb tv ts en i (pStart en (n + 1))) (RdZ w pb ts i (pStart en (n + 1)))) := by
  refine calls_ofP Tryz.func29 rfl Tryz.ntmps29 rfl ?_
  refine wk_seq fun K hK => ?_
  refine wk_reg ?_
  refine o_box hl [.pointer (some ⟨pb, 0, none⟩)] rfl rfl rfl ?_
  clear hl
  intro b1 w0 hb1 hl
  refine o_alloc hl [.int .i64 0, .string "".toByteArray, .int .i64 0, .slice none 0 0] (by kernel_rfl) rfl ?_
  clear hl
  intro b2 w1 hb2 hl
  replace hl := hl.perm (List.reverse_perm _).symm
  have hl : LH w (OneB pb) w1 [psB pb tv i en, (b1, Obj.cells #[.pointer (some ⟨pb, 0, none⟩)] 57 (0, 0)), (b2, Obj.cells #[.int .i64 0, .string "".toByteArray, .int .i64 0, .slice none 0 0] 24 (0, 0))] := hl
  have hu1 := hl.upd
  have hne : b1 ≠ pb := fun e => by
    have := hl.nd
    simp [psB, e] at this
  have hb : Row w1 b1 0 [.pointer (some ⟨pb, 0, none⟩)] := hl.rowL (vs := [.pointer (some ⟨pb, 0, none⟩)]) 1 0 1 rfl
  refine o_nil (hK _ _ ?_)
  clear hK K
  refine wk_seq fun K hK => ?_
  refine wk_reg ?_
  refine o_mf [] [.pointer (some ⟨b1, 0, none⟩)] rfl rfl rfl ?_
  refine a_asg ?_
  refine o_nil (hK _ _ ?_)
  clear hK K
  refine wk_seq fun K hK => ?_
  refine wk_reg ?_
  refine a_row hb ?_
  refine a_mov ?_
  have hT1 := hT.upd hu1
  refine a_fnP (several_calls (wd := kOr) (op := 9) (all_calls h1 hT1 hb hne) hT1 (fun w lv m h => joinAny_calls w lv m h) (.refl _ _) hl.one hi hn) ?_ ?_ rfl (fun _ => rfl) (by simp only [kOr, str_eq]; rfl)
  rotate_left
  · rintro ch w2 ⟨e, a, hr, rfl, hu2⟩
    exact retP_panic rfl ⟨e, a, hr, rfl, hu1.trans hu2 fun k hk hM => hM⟩
  rintro _ w2 ⟨s0, kv0, j, rfl, hr0, hj, hj2, hl2, hk0⟩
  have hl0 := hl
  replace hl := hl.swap hl2
  have hk2 : KR w2 (FrN w w2 [psB pb tv j en, (b1, Obj.cells #[.pointer (some ⟨pb, 0, none⟩)] 57 (0, 0)), (b2, Obj.cells #[.int .i64 0, .string "".toByteArray, .int .i64 0, .slice none 0 0] 24 (0, 0))]) s0.kids kv0 := KR.newN hl0 hu1.size rfl hk0
  refine o_putN (us := snL s0 kv0) hl.rb rfl rfl rfl (snL_one hk0) rfl (.there (.there (.here rfl rfl))) ?_
  intro w3 hl3
  have hk3 := KR.grow (l6 := [_, _, _]) hl3 hk2
  replace hl := hl.bk hl3
  refine o_nil (hK _ _ ?_)
  clear hK K
  refine wk_ret (retP_of (retQ_res [.agg (snL s0 kv0).toArray] rfl rfl ⟨by decide, ⟨⟨b2, 0, none⟩, rfl, run_loadVarN rfl rfl (hl.rowL (vs := snL s0 kv0) 2 0 4 rfl)⟩, trivial⟩ ?_) rfl)
  exact ⟨s0, kv0, j, rfl, hr0, hj, hj2, hl.sub (List.cons_sublist_cons.2 (List.nil_sublist _)), hk3.mono fun b hb => ⟨hb.1, hb.2.1⟩⟩
end Go.Proofs
