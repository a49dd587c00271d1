/-
  Conditions of commencement: the parser's helpers (fail, is, take).
-/
import Derived.Test.YtebaoilkpedppaaDoorLZ
import Derived.Test.YtebaoilkpedppaaDoorOrd2
import Derived.Test.YtebaoilkpedppaaDoorLD
import Derived.Test.YtebaoilkpedppaaDoorStPa
import Derived.Test.YtebaoilkpedppaaDoorStB
set_option linter.unusedVariables false
set_option linter.unusedSimpArgs false
set_option linter.unnecessarySimpa false
set_option maxRecDepth 10000
namespace Go.Proofs
open Go Go.Pd Go.Sta
open Go.Lexs (Tok)
attribute [local irreducible] OpsL W RetQ OpsQ OpsC
def psL (tv : Value) (i en : Int) : List Value := [tv, .int .i64 i, .int .i64 en]
def psB (pb : Nat) (tv : Value) (i en : Int) : Nat × Obj := (pb, .cells (psL tv i en).toArray 57 (0, 0))
/-- A fault, as it is panicked with. -/
def faultV (e a : Int) : Value := .iface 54 (.agg #[.int .i64 e, .int .i64 a])
def faultC (e a : Int) : List PanicEntry := [{ v := faultV e a, recovered := false }]
/-- The tokens, off the parser's block. -/
def TK (w : World) (pb : Nat) (tv : Value) (ts : List Tok) : Prop := Sl w tv 4 (toksL ts) ∧ (toksL ts ≠ [] → Off (OneB pb) tv) ∧ ts.length ≤ 5000
theorem TK.upd {w w' : World} {pb : Nat} {tv : Value} {ts : List Tok} (h : TK w pb tv ts) (e : Upd (OneB pb) w w') : TK w' pb tv ts := ⟨sl_updE h.1 e h.2.1, h.2⟩
theorem tokL_len (t : Tok) : (tokL t).length = 4 := rfl
theorem toksL_len (ts : List Tok) : (toksL ts).length = ts.length * 4 := flat_length tokL_len ts
theorem ext_upd {M : Nat → Prop} {w w' : World} (h : Ext w w') : Upd M w w' := ⟨h.size, fun b hb _ => h.same b hb (fun h => h), h.os, h.out⟩
theorem TK.shape {w : World} {pb : Nat} {tv : Value} {ts : List Tok} (h : TK w pb tv ts) : ∃ a c, tv = .slice a ts.length c ∧ ts.length ≤ c := h.1.shape (toksL_len ts) (by omega)
theorem TK.at {w : World} {pb c : Nat} {a : Option Addr} {ts : List Tok} (h : TK w pb (.slice a ts.length c) ts) {i : Nat} (hi : i < ts.length) : ∃ b o, a = some ⟨b, o, none⟩ ∧ Row w b (o + i * 4) (tokL ts[i]) := by
  obtain ⟨b, o, hp, hr⟩ := h.1.at (toksL_len ts) (by omega) (by omega)
  exact ⟨b, o, hp, hr.elem tokL_len (k := i) (t := ts[i]) (by simp [hi])⟩
def FailP (w : World) (en : Int) (r : List Tok) : List PanicEntry → World → Prop := fun ch w' => ch = faultC (failE r) (failA en r) ∧ Ext w w'
def FailU (w : World) (pb : Nat) (en : Int) (r : List Tok) : List PanicEntry → World → Prop := fun ch w' => ch = faultC (failE r) (failA en r) ∧ Upd (OneB pb) w w'
theorem fail_calls {w : World} {pb : Nat} {tv : Value} {ts : List Tok} {i : Nat} {en : Int} (hT : TK w pb tv ts) (hp : Row w pb 0 (psL tv i en)) (hi : i ≤ ts.length) :
    Calls Tryd.prog 15 #[.pointer (some ⟨pb, 0, none⟩)] w (EndP (fun _ _ => False) (FailP w en (ts.drop i))) := by
  obtain ⟨ta, tc, rfl, hcap⟩ := hT.shape
  have hlen := hT.2.2
  refine calls_ofP Tryd.func15 rfl Tryd.ntmps15 rfl ?_
  refine wk_seq fun K hK => ?_
  refine wk_seq fun K2 hK2 => ?_
  by_cases h : i = ts.length
  · subst h
    refine wk_np (wk_quiet (List.range 10) ?_)
    repeat' (first | refine q_mov ?_ | refine q_asg ?_ | refine q_fa ?_ | refine q_ext ?_ | refine q_binN ?_ | refine q_notd ?_ | refine q_notb ?_ | refine q_pick_t ?_ | refine q_pick_f ?_ | refine q_nilc ?_ | refine q_skip ?_ | refine q_lens ?_ | refine q_lenv ?_ | refine q_nil ?_ | refine q_ix (fun _ => ?_) | (refine q_bin ?_ ?_ <;> intro _ <;> try (exfalso; omega)) | refine q_row (fun w_ hw_ => hp.ext hw_) ?_)
    intro w1 hx1
    refine hK2 _ _ ?_
    clear hK2 K2
    refine wk_cond_t rfl ?_
    refine wk_reg ?_
    repeat' (first | refine a_mov ?_ | refine a_asg ?_ | refine a_binN ?_ | refine a_notd ?_ | refine a_notb ?_ | refine a_nilc ?_ | refine a_fa ?_ | refine a_ext ?_ | refine a_lenv ?_ | refine a_lens ?_ | refine a_pick_t ?_ | refine a_pick_f ?_ | refine a_not ?_ | refine a_nilf ?_ | (refine a_bin ?_ ?_ <;> intro _ <;> try (exfalso; omega)) | refine a_ld hl ?_ | (refine a_st hl ?_; clear hl; intro _ hl) | refine a_ix (fun _ => ?_) | refine a_row (hp.ext hx1) ?_ | fail)
    refine o_build [.int .i64 6, .int .i64 en] rfl rfl ?_
    refine a_mif (v := .agg #[.int .i64 6, .int .i64 en]) ?_
    refine a_panic (v := faultV 6 en) (retP_panic rfl ⟨?_, hx1⟩)
    rw [List.drop_length]
    rfl
  · have hlt : i < ts.length := by omega
    obtain ⟨b, o, rfl, hr⟩ := hT.at hlt
    refine wk_np (wk_quiet (List.range 10) ?_)
    repeat' (first | refine q_mov ?_ | refine q_asg ?_ | refine q_fa ?_ | refine q_ext ?_ | refine q_binN ?_ | refine q_notd ?_ | refine q_notb ?_ | refine q_pick_t ?_ | refine q_pick_f ?_ | refine q_nilc ?_ | refine q_skip ?_ | refine q_lens ?_ | refine q_lenv ?_ | refine q_nil ?_ | refine q_ix (fun _ => ?_) | (refine q_bin ?_ ?_ <;> intro _ <;> try (exfalso; omega)) | refine q_row (fun w_ hw_ => hp.ext hw_) ?_)
    intro w1 hx1
    refine hK2 _ _ ?_
    clear hK2 K2
    refine wk_cond_f rfl ?_
    refine wk_skip (hK _ _ ?_)
    clear hK K
    refine wk_drawZ (Z := FailP w en (ts.drop i)) (List.range 13) [13] (fun c s w hd h => retP_panic hd h) ?_
    repeat' (first | refine q_mov ?_ | refine q_asg ?_ | refine q_fa ?_ | refine q_ext ?_ | refine q_binN ?_ | refine q_notd ?_ | refine q_notb ?_ | refine q_pick_t ?_ | refine q_pick_f ?_ | refine q_nilc ?_ | refine q_skip ?_ | refine q_lens ?_ | refine q_lenv ?_ | refine q_nil ?_ | refine q_ix (fun _ => ?_) | (refine q_bin ?_ ?_ <;> intro _ <;> try (exfalso; omega)) | refine q_row (fun w_ hw_ => (hp.ext hx1).ext hw_) ?_ | refine q_idx (c := 4) i rfl ?_ | refine q_row (fun w_ hw_ => (hr.ext hx1).ext hw_) ?_)
    refine q_pur rfl rfl rfl (fun _ => r_build [.int .i64 5, .int .i64 (ts[i].pos : Int)] rfl) ?_
    refine q_val rfl rfl rfl rfl (fun w_ hw_ => r_mif (v := .agg #[.int .i64 5, .int .i64 (ts[i].pos : Int)]) rfl (by kernel_rfl)) ?_
    refine q_nil ?_
    intro w2 hx2
    refine ops_tail rfl rfl ?_
    refine a_panic (v := faultV 5 (ts[i].pos : Int)) ⟨rfl, ?_, hx1.trans hx2⟩
    rw [List.drop_eq_getElem_cons hlt]
    rfl
/-- A word or symbol, if it is the next token. -/
theorem is_calls {w : World} {pb : Nat} {tv : Value} {ts : List Tok} {i : Nat} {en : Int} {wd : Tx} (hT : TK w pb tv ts) (hl : LH w (OneB pb) w [psB pb tv i en]) (hi : i ≤ ts.length) :
    Calls Tryd.prog 46 #[.pointer (some ⟨pb, 0, none⟩), str wd] w (fun e w' => ∃ v, e = .returned v ∧ v = .bool (isT wd (ts.drop i)) ∧ LH w (OneB pb) w' [psB pb tv (if isT wd (ts.drop i) then i + 1 else i : Nat) en]) := by
  obtain ⟨ta, tc, rfl, hcap⟩ := hT.shape
  have hlen := hT.2.2
  have hp : Row w pb 0 (psL (.slice ta ts.length tc) i en) := hl.rowL (vs := psL (.slice ta ts.length tc) i en) 0 0 3 rfl
  refine calls_of Tryd.func46 rfl Tryd.ntmps46 rfl ?_
  refine wk_seq fun K hK => ?_
  refine wk_reg ?_
  refine o_asg rfl rfl ?_
  refine o_nil (hK _ _ ?_)
  clear hK K
  refine wk_seq fun K hK => ?_
  refine wk_seq fun K2 hK2 => ?_
  have hout : ∀ w1, Ext w w1 → LH w (OneB pb) w1 [psB pb (.slice ta ts.length tc) i en] := fun w1 hx => hl.ext hx
  by_cases h : i = ts.length
  · subst h
    refine wk_quiet (List.range 39) ?_
    repeat' (first | refine q_mov ?_ | refine q_asg ?_ | refine q_fa ?_ | refine q_ext ?_ | refine q_binN ?_ | refine q_notd ?_ | refine q_notb ?_ | refine q_pick_t ?_ | refine q_pick_f ?_ | refine q_nilc ?_ | refine q_skip ?_ | refine q_lens ?_ | refine q_lenv ?_ | refine q_nil ?_ | refine q_ix (fun _ => ?_) | (refine q_bin ?_ ?_ <;> intro _ <;> try (exfalso; omega)) | refine q_row (fun w_ hw_ => hp.ext hw_) ?_)
    intro w1 hx1
    refine hK2 _ _ ?_
    clear hK2 K2
    repeat' (first | refine a_mov ?_ | refine a_asg ?_ | refine a_binN ?_ | refine a_notd ?_ | refine a_notb ?_ | refine a_nilc ?_ | refine a_fa ?_ | refine a_ext ?_ | refine a_lenv ?_ | refine a_lens ?_ | refine a_pick_t ?_ | refine a_pick_f ?_ | refine a_not ?_ | refine a_nilf ?_ | (refine o_nil (hK _ _ ?_); clear hK K) | refine wk_reg ?_ | refine wk_seq fun K hK => ?_ | (refine wk_skip (hK _ _ ?_); clear hK K) | (refine wk_label (hK _ _ ?_); clear hK K) | refine wk_scope ?_ | refine wk_block ?_ | refine wk_cond_t rfl ?_ | refine wk_cond_f rfl ?_ | (refine wk_exit ?_; (repeat (refine blockK_other rfl ?_)); refine blockK_same ?_; try ((repeat ((fail_if_success (refine hK _ _ ?_)); clear hK K)); refine hK _ _ ?_; clear hK K)) | (refine a_bin ?_ ?_ <;> intro _ <;> try (exfalso; omega)) | refine a_ld hl ?_ | (refine a_st hl ?_; clear hl; intro _ hl) | refine a_ix (fun _ => ?_) | fail)
    refine wk_ret (retQ_tmp1 Tryd.results46 (by decide) rfl (by conv => lhs; whnf) ?_)
    rw [List.drop_length]
    exact ⟨rfl, hout _ hx1⟩
  have hlt : i < ts.length := by omega
  obtain ⟨b, o, rfl, hr⟩ := hT.at hlt
  obtain ⟨kb, hkb⟩ : ∃ kb, kb = decide (ts[i].kind = 2) := ⟨_, rfl⟩
  obtain ⟨xb, hxb⟩ : ∃ xb, xb = decide (ts[i].text ≠ wd) := ⟨_, rfl⟩
  have hval : isT wd (ts.drop i) = (!kb && !xb) := by
    rw [List.drop_eq_getElem_cons hlt, hkb, hxb]
    simp [isT]
  have hki : ((ts[i].kind : Int) = 2) ↔ ts[i].kind = 2 := by omega
  cases kb
  · have hk2 : ts[i].kind ≠ 2 := by simpa using hkb.symm
    refine wk_quiet (List.range 39) ?_
    repeat' (first | refine q_mov ?_ | refine q_asg ?_ | refine q_fa ?_ | refine q_ext ?_ | refine q_binN ?_ | refine q_notd ?_ | refine q_notb ?_ | refine q_pick_t ?_ | refine q_pick_f ?_ | refine q_nilc ?_ | refine q_skip ?_ | refine q_lens ?_ | refine q_lenv ?_ | refine q_nil ?_ | refine q_ix (fun _ => ?_) | (refine q_bin ?_ ?_ <;> intro _ <;> try (exfalso; omega)) | refine q_row (fun w_ hw_ => hp.ext hw_) ?_ | refine q_idx (c := 4) i rfl ?_ | refine q_row (fun w_ hw_ => hr.ext hw_) ?_ | refine q_pur rfl rfl rfl (fun _ => (r_nes (a := ts[i].text) (b := wd) rfl rfl).trans (by rw [← hxb])) ?_)
    intro w1 hx1
    refine hK2 _ _ ?_
    clear hK2 K2
    cases xb
    · refine wk_cond_f rfl ?_
      refine wk_skip (hK _ _ ?_)
      clear hK K
      replace hl := hl.ext hx1
      repeat' (first | refine a_mov ?_ | refine a_asg ?_ | refine a_binN ?_ | refine a_notd ?_ | refine a_notb ?_ | refine a_nilc ?_ | refine a_fa ?_ | refine a_ext ?_ | refine a_lenv ?_ | refine a_lens ?_ | refine a_pick_t ?_ | refine a_pick_f ?_ | refine a_not ?_ | refine a_nilf ?_ | (refine o_nil (hK _ _ ?_); clear hK K) | refine wk_reg ?_ | refine wk_seq fun K hK => ?_ | (refine wk_skip (hK _ _ ?_); clear hK K) | (refine wk_label (hK _ _ ?_); clear hK K) | refine wk_scope ?_ | refine wk_block ?_ | refine wk_cond_t rfl ?_ | refine wk_cond_f rfl ?_ | (refine wk_exit ?_; (repeat (refine blockK_other rfl ?_)); refine blockK_same ?_; try ((repeat ((fail_if_success (refine hK _ _ ?_)); clear hK K)); refine hK _ _ ?_; clear hK K)) | (refine a_bin ?_ ?_ <;> intro _ <;> try (exfalso; omega)) | refine a_ld hl ?_ | (refine a_st hl ?_; clear hl; intro _ hl) | refine a_ix (fun _ => ?_) | fail)
      refine wk_ret (retQ_tmp1 Tryd.results46 (by decide) rfl (by conv => lhs; whnf) ?_)
      rw [hval]
      exact ⟨rfl, hl⟩
    · repeat' (first | refine a_mov ?_ | refine a_asg ?_ | refine a_binN ?_ | refine a_notd ?_ | refine a_notb ?_ | refine a_nilc ?_ | refine a_fa ?_ | refine a_ext ?_ | refine a_lenv ?_ | refine a_lens ?_ | refine a_pick_t ?_ | refine a_pick_f ?_ | refine a_not ?_ | refine a_nilf ?_ | (refine o_nil (hK _ _ ?_); clear hK K) | refine wk_reg ?_ | refine wk_seq fun K hK => ?_ | (refine wk_skip (hK _ _ ?_); clear hK K) | (refine wk_label (hK _ _ ?_); clear hK K) | refine wk_scope ?_ | refine wk_block ?_ | refine wk_cond_t rfl ?_ | refine wk_cond_f rfl ?_ | (refine wk_exit ?_; (repeat (refine blockK_other rfl ?_)); refine blockK_same ?_; try ((repeat ((fail_if_success (refine hK _ _ ?_)); clear hK K)); refine hK _ _ ?_; clear hK K)) | (refine a_bin ?_ ?_ <;> intro _ <;> try (exfalso; omega)) | refine a_ld hl ?_ | (refine a_st hl ?_; clear hl; intro _ hl) | refine a_ix (fun _ => ?_) | fail)
      refine wk_ret (retQ_tmp1 Tryd.results46 (by decide) rfl (by conv => lhs; whnf) ?_)
      rw [hval]
      exact ⟨rfl, hout _ hx1⟩
  · have hk2 : ts[i].kind = 2 := by simpa using hkb.symm
    refine wk_quiet (List.range 39) ?_
    repeat' (first | refine q_mov ?_ | refine q_asg ?_ | refine q_fa ?_ | refine q_ext ?_ | refine q_binN ?_ | refine q_notd ?_ | refine q_notb ?_ | refine q_pick_t ?_ | refine q_pick_f ?_ | refine q_nilc ?_ | refine q_skip ?_ | refine q_lens ?_ | refine q_lenv ?_ | refine q_nil ?_ | refine q_ix (fun _ => ?_) | (refine q_bin ?_ ?_ <;> intro _ <;> try (exfalso; omega)) | refine q_row (fun w_ hw_ => hp.ext hw_) ?_ | refine q_idx (c := 4) i rfl ?_ | refine q_row (fun w_ hw_ => hr.ext hw_) ?_)
    intro w1 hx1
    refine hK2 _ _ ?_
    clear hK2 K2
    repeat' (first | refine a_mov ?_ | refine a_asg ?_ | refine a_binN ?_ | refine a_notd ?_ | refine a_notb ?_ | refine a_nilc ?_ | refine a_fa ?_ | refine a_ext ?_ | refine a_lenv ?_ | refine a_lens ?_ | refine a_pick_t ?_ | refine a_pick_f ?_ | refine a_not ?_ | refine a_nilf ?_ | (refine o_nil (hK _ _ ?_); clear hK K) | refine wk_reg ?_ | refine wk_seq fun K hK => ?_ | (refine wk_skip (hK _ _ ?_); clear hK K) | (refine wk_label (hK _ _ ?_); clear hK K) | refine wk_scope ?_ | refine wk_block ?_ | refine wk_cond_t rfl ?_ | refine wk_cond_f rfl ?_ | (refine wk_exit ?_; (repeat (refine blockK_other rfl ?_)); refine blockK_same ?_; try ((repeat ((fail_if_success (refine hK _ _ ?_)); clear hK K)); refine hK _ _ ?_; clear hK K)) | (refine a_bin ?_ ?_ <;> intro _ <;> try (exfalso; omega)) | refine a_ld hl ?_ | (refine a_st hl ?_; clear hl; intro _ hl) | refine a_ix (fun _ => ?_) | fail)
    refine wk_ret (retQ_tmp1 Tryd.results46 (by decide) rfl (by conv => lhs; whnf) ?_)
    rw [hval]
    exact ⟨rfl, hout _ hx1⟩
/-- A token of a kind. -/
theorem take_calls {w : World} {pb : Nat} {tv : Value} {ts : List Tok} {i k : Nat} {en : Int} (hT : TK w pb tv ts) (hl : LH w (OneB pb) w [psB pb tv i en]) (hi : i ≤ ts.length) :
    Calls Tryd.prog 47 #[.pointer (some ⟨pb, 0, none⟩), .int .i64 (k : Int)] w (EndP (fun v w' => ∃ h : i < ts.length, ts[i].kind = k ∧ v = .agg (tokL ts[i]).toArray ∧ LH w (OneB pb) w' [psB pb tv (i + 1 : Nat) en]) (fun ch w' => (∀ h : i < ts.length, ts[i].kind ≠ k) ∧ FailU w pb en (ts.drop i) ch w')) := by
  obtain ⟨ta, tc, rfl, hcap⟩ := hT.shape
  have hlen := hT.2.2
  refine calls_ofP Tryd.func47 rfl Tryd.ntmps47 rfl ?_
  refine wk_seq fun K hK => ?_
  refine wk_reg ?_
  refine o_alloc hl [.int .i64 0, .string "".toByteArray, .int .i64 0, .int .i64 0] (by kernel_rfl) rfl ?_
  clear hl
  intro b4 w1 hb4 hl
  refine o_nil (hK _ _ ?_)
  clear hK K
  refine wk_seq fun K hK => ?_
  have hp : Row w1 pb 0 (psL (.slice ta ts.length tc) i en) := hl.rowL (vs := psL (.slice ta ts.length tc) i en) 1 0 3 rfl
  have hT1 := hT.upd hl.upd
  refine wk_seq fun K2 hK2 => ?_
  by_cases h : i = ts.length
  · subst h
    refine wk_np (wk_quiet (List.range 25) ?_)
    repeat' (first | refine q_mov ?_ | refine q_asg ?_ | refine q_fa ?_ | refine q_ext ?_ | refine q_binN ?_ | refine q_notd ?_ | refine q_notb ?_ | refine q_pick_t ?_ | refine q_pick_f ?_ | refine q_nilc ?_ | refine q_skip ?_ | refine q_lens ?_ | refine q_lenv ?_ | refine q_nil ?_ | refine q_ix (fun _ => ?_) | (refine q_bin ?_ ?_ <;> intro _ <;> try (exfalso; omega)) | refine q_row (fun w_ hw_ => hp.ext hw_) ?_)
    intro w2 hx2
    refine hK2 _ _ ?_
    clear hK2 K2
    refine wk_cond_t rfl ?_
    refine wk_reg ?_
    repeat' (first | refine a_mov ?_ | refine a_asg ?_ | refine a_binN ?_ | refine a_notd ?_ | refine a_notb ?_ | refine a_nilc ?_ | refine a_fa ?_ | refine a_ext ?_ | refine a_lenv ?_ | refine a_lens ?_ | refine a_pick_t ?_ | refine a_pick_f ?_ | refine a_not ?_ | refine a_nilf ?_ | (refine a_bin ?_ ?_ <;> intro _ <;> try (exfalso; omega)) | refine a_ld hl ?_ | (refine a_st hl ?_; clear hl; intro _ hl) | refine a_ix (fun _ => ?_) | fail)
    refine a_fnP (fail_calls (hT1.upd (ext_upd hx2)) (hp.ext hx2) (Nat.le_refl _)) (fun v w' h => h.elim) (fun ch w' hz => retP_panic rfl ?_)
    exact ⟨fun h => absurd h (Nat.lt_irrefl _), hz.1, ((hl.ext hx2).ext hz.2).upd⟩
  · have hlt : i < ts.length := by omega
    obtain ⟨b, o, rfl, hr⟩ := hT1.at hlt
    by_cases hk : ts[i].kind = k
    · refine wk_np (wk_quiet (List.range 25) ?_)
      repeat' (first | refine q_mov ?_ | refine q_asg ?_ | refine q_fa ?_ | refine q_ext ?_ | refine q_binN ?_ | refine q_notd ?_ | refine q_notb ?_ | refine q_pick_t ?_ | refine q_pick_f ?_ | refine q_nilc ?_ | refine q_skip ?_ | refine q_lens ?_ | refine q_lenv ?_ | refine q_nil ?_ | refine q_ix (fun _ => ?_) | (refine q_bin ?_ ?_ <;> intro _ <;> try (exfalso; omega)) | refine q_row (fun w_ hw_ => hp.ext hw_) ?_ | refine q_idx (c := 4) i rfl ?_ | refine q_row (fun w_ hw_ => hr.ext hw_) ?_)
      intro w2 hx2
      refine hK2 _ _ ?_
      clear hK2 K2
      refine wk_cond_f rfl ?_
      refine wk_skip (hK _ _ ?_)
      clear hK K
      replace hl := hl.ext hx2
      repeat' (first | refine a_mov ?_ | refine a_asg ?_ | refine a_binN ?_ | refine a_notd ?_ | refine a_notb ?_ | refine a_nilc ?_ | refine a_fa ?_ | refine a_ext ?_ | refine a_lenv ?_ | refine a_lens ?_ | refine a_pick_t ?_ | refine a_pick_f ?_ | refine a_not ?_ | refine a_nilf ?_ | (refine o_nil (hK _ _ ?_); clear hK K) | refine wk_reg ?_ | refine wk_seq fun K hK => ?_ | (refine wk_skip (hK _ _ ?_); clear hK K) | (refine wk_label (hK _ _ ?_); clear hK K) | refine wk_scope ?_ | refine wk_block ?_ | refine wk_cond_t rfl ?_ | refine wk_cond_f rfl ?_ | (refine wk_exit ?_; (repeat (refine blockK_other rfl ?_)); refine blockK_same ?_; try ((repeat ((fail_if_success (refine hK _ _ ?_)); clear hK K)); refine hK _ _ ?_; clear hK K)) | (refine a_bin ?_ ?_ <;> intro _ <;> try (exfalso; omega)) | refine a_ld hl ?_ | (refine a_st hl ?_; clear hl; intro _ hl) | refine a_ix (fun _ => ?_) | fail)
      rename_i w3
      have hp3 : Row w3 pb 0 (psL (.slice (some ⟨b, o, none⟩) ts.length tc) ((i : Int) + 1) en) := hl.rowL (vs := psL (.slice (some ⟨b, o, none⟩) ts.length tc) ((i : Int) + 1) en) 1 0 3 rfl
      obtain ⟨b3, o3, e3, hr3⟩ := (hT.upd hl.upd).at hlt
      cases e3
      refine wk_drawZ (Z := fun _ _ => False) (List.range 11) [11] (fun c s w hd h => h.elim) ?_
      have hi1 : (i : Int) + 1 - 1 = (i : Int) := by omega
      repeat' (first | refine q_mov ?_ | refine q_asg ?_ | refine q_fa ?_ | refine q_ext ?_ | refine q_binN ?_ | refine q_notd ?_ | refine q_notb ?_ | refine q_pick_t ?_ | refine q_pick_f ?_ | refine q_nilc ?_ | refine q_skip ?_ | refine q_lens ?_ | refine q_lenv ?_ | refine q_nil ?_ | refine q_ix (fun _ => ?_) | (refine q_bin ?_ ?_ <;> intro _ <;> try (exfalso; omega)) | refine q_row (fun w_ hw_ => hp3.ext hw_) ?_ | (rw [hi1]; refine q_idx (c := 4) i rfl ?_) | refine q_all (fun w_ hw_ => hr3.ext hw_) ?_)
      intro w4 hx4
      replace hl := hl.ext hx4
      refine ops_tail rfl rfl ?_
      refine o_putN (us := tokL ts[i]) hl rfl rfl rfl (by simp only [tokL, List.all_cons, List.all_nil, oneCell_str]; rfl) rfl (.here rfl rfl) ?_
      clear hl
      intro w5 hl
      refine o_nil ⟨trivial, ?_⟩
      refine ops_nil (hK _ _ ?_)
      refine wk_ret (retP_of (retQ_res [.agg (tokL ts[i]).toArray] rfl rfl ⟨by decide, ⟨⟨b4, 0, none⟩, rfl, run_loadVarN rfl rfl (hl.rowL (vs := tokL ts[i]) 0 0 4 rfl)⟩, trivial⟩ ?_) rfl)
      exact ⟨hlt, hk, rfl, hl.sub (List.sublist_cons_self _ _)⟩
    · refine wk_np (wk_quiet (List.range 25) ?_)
      repeat' (first | refine q_mov ?_ | refine q_asg ?_ | refine q_fa ?_ | refine q_ext ?_ | refine q_binN ?_ | refine q_notd ?_ | refine q_notb ?_ | refine q_pick_t ?_ | refine q_pick_f ?_ | refine q_nilc ?_ | refine q_skip ?_ | refine q_lens ?_ | refine q_lenv ?_ | refine q_nil ?_ | refine q_ix (fun _ => ?_) | (refine q_bin ?_ ?_ <;> intro _ <;> try (exfalso; omega)) | refine q_row (fun w_ hw_ => hp.ext hw_) ?_ | refine q_idx (c := 4) i rfl ?_ | refine q_row (fun w_ hw_ => hr.ext hw_) ?_)
      intro w2 hx2
      refine hK2 _ _ ?_
      clear hK2 K2
      refine wk_cond_t rfl ?_
      refine wk_reg ?_
      repeat' (first | refine a_mov ?_ | refine a_asg ?_ | refine a_binN ?_ | refine a_notd ?_ | refine a_notb ?_ | refine a_nilc ?_ | refine a_fa ?_ | refine a_ext ?_ | refine a_lenv ?_ | refine a_lens ?_ | refine a_pick_t ?_ | refine a_pick_f ?_ | refine a_not ?_ | refine a_nilf ?_ | (refine a_bin ?_ ?_ <;> intro _ <;> try (exfalso; omega)) | refine a_ld hl ?_ | (refine a_st hl ?_; clear hl; intro _ hl) | refine a_ix (fun _ => ?_) | fail)
      refine a_fnP (fail_calls (hT1.upd (ext_upd hx2)) (hp.ext hx2) hi) (fun v w' h => h.elim) (fun ch w' hz => retP_panic rfl ?_)
      exact ⟨fun _ => hk, hz.1, ((hl.ext hx2).ext hz.2).upd⟩
end Go.Proofs
