/-
  The reference: Decimal, write, Text.
-/
import Derived.Test.YtebaoilkpedppaaGreatDoorQStRe
import Derived.Test.YtebaoilkpedppaaGreatDoorQStAb
import Derived.Test.YtebaoilkpedppaaGreatDoorQStW
set_option linter.unusedVariables false
set_option linter.unusedSimpArgs false
set_option linter.unnecessarySimpa false
set_option maxRecDepth 10000
namespace Go.Pd
open Go
theorem wrap_u64 {x : Int} (h : 0 ≤ x ∧ x ≤ 18446744073709551615) : IntKind.wrap .u64 x = x := by
  simp only [IntKind.wrap, IntKind.signed, IntKind.bits]
  simp
  omega
section
variable {P : Program} {r : Option Nat} {n : Nat} {ops : Array Oper} {K : St → World → Prop} {X : List PanicEntry → St → World → Prop} {l : List Oper} {s : St} {w : World} {k : Nat} {ty : TypeId} {p : String} {af : Array Edge} {g : Option (Nat × Bool)}
theorem a_cvK {src dst : TypeId} {x : Operand} {ks kd : IntKind} {z : Int} (hk : OpsL P r n ops K X l (s.set k (.int kd z)) w) (hz : kd.wrap z = z) (hw : Region.wanted ⟨some k, .convert src dst x, ty, p, af, g⟩ (yieldedE ops n s) = true := by rfl) (hx : rd n s x = .int ks z := by rfl) (hs : P.underlying src = some (.int ks) := by rfl) (hd : P.underlying dst = some (.int kd) := by rfl) : OpsL P r n ops K X (⟨some k, .convert src dst x, ty, p, af, g⟩ :: l) s w := by
  refine o_val (w' := w) hw ?_ hk
  rw [Oper.semAt_eq _ _ _ (fun c e => by cases e)]
  have h1 : (convert src dst (.int ks z)).run P w = .ok (.int kd z) w := by
    unfold convert
    rw [sem_bind (run_underlying' hs w)]
    rw [sem_bind (run_underlying' hd w)]
    simp only [Conv.intToInt, hz]
    rfl
  simp only [execOp, hx]
  rw [sem_bind h1]
  rfl
end
end Go.Pd
namespace Go.Sta
theorem dig_cut {d : Nat} (h : d < 10) : (([48, 49, 50, 51, 52, 53, 54, 55, 56, 57] : Tx).take (d + 1)).drop d = [(48 + d).toUInt8] := by
  have : d = 0 ∨ d = 1 ∨ d = 2 ∨ d = 3 ∨ d = 4 ∨ d = 5 ∨ d = 6 ∨ d = 7 ∨ d = 8 ∨ d = 9 := by omega
  rcases this with rfl | rfl | rfl | rfl | rfl | rfl | rfl | rfl | rfl | rfl <;> rfl
def wrdL : List Tx := [[], [97, 108, 119, 97, 121, 115], [110, 101, 118, 101, 114], [100, 97, 121], [111, 114, 100, 101, 114], [101, 118, 101, 110, 116], [98, 101, 103, 117, 110], [111, 118, 101, 114]]
theorem wrdL_at : ∀ (k : Nat) (hk : k < wrdL.length), 1 ≤ k → wrdL[k] = wordS (k : Int) ∧ wrdL[k].length ≤ 6
  | 1, h, _ => ⟨rfl, by simp [wrdL]⟩
  | 2, h, _ => ⟨rfl, by simp [wrdL]⟩
  | 3, h, _ => ⟨rfl, by simp [wrdL]⟩
  | 4, h, _ => ⟨rfl, by simp [wrdL]⟩
  | 5, h, _ => ⟨rfl, by simp [wrdL]⟩
  | 6, h, _ => ⟨rfl, by simp [wrdL]⟩
  | 7, h, _ => ⟨rfl, by simp [wrdL]⟩
  | k + 8, h, _ => by simp [wrdL] at h; omega
theorem wrT_snoc (sep : Tx) : ∀ (ks : List Sn) (k : Sn), wrT sep (ks ++ [k]) = (wrT sep ks ++ (32 :: sep ++ [32])) ++ wr true k
  | [], k => by simp [wrT]
  | a :: ks, k => by
    simp only [List.cons_append, wrT]
    rw [wrT_snoc sep ks k]
    simp
theorem wrL_snoc (sep : Tx) (ks : List Sn) (k : Sn) (h : ks ≠ []) : wrL sep (ks ++ [k]) = (wrL sep ks ++ (32 :: sep ++ [32])) ++ wr true k := by
  cases ks with
  | nil => exact absurd rfl h
  | cons a ks =>
    simp only [List.cons_append, wrL]
    rw [wrT_snoc sep ks k]
    simp
end Go.Sta
namespace Go.Proofs
open Go Go.Pd Go.Sta
attribute [local irreducible] OpsL W RetQ OpsQ OpsC
theorem digitsR_calls {N : Nat} (hN : N ≤ 1000000) (w : World) : Calls Tryz.prog 93 #[.int .u64 (N : Int)] w (fun e w' => ∃ x, e = .returned x ∧ x = str (decS N) ∧ w' = w) := by
  have hlen := decS_len 6 N (by omega)
  have hm : ∀ m : Nat, (m : Int) % 10 = ((m % 10 : Nat) : Int) := fun m => by omega
  have hq : ∀ m : Nat, (m : Int) / 10 = ((m / 10 : Nat) : Int) := fun m => by omega
  refine calls_of Tryz.func93 rfl Tryz.ntmps93 rfl ?_
  refine wk_seq fun K hK => ?_
  refine wk_reg ?_
  refine a_asg ?_
  refine o_nil (hK _ _ ?_)
  clear hK K
  refine wk_seq fun K hK => ?_
  refine wk_reg ?_
  refine a_mov ?_
  refine o_rem rfl rfl rfl (by omega) (by omega) ?_
  refine a_mov ?_
  refine o_rem rfl rfl rfl (by omega) (by omega) ?_
  refine o_binK (c := (N : Int) % 10 + 1) rfl rfl rfl rfl (wrap_u64 (by omega)) ?_
  refine o_cut2 (bs := [48, 49, 50, 51, 52, 53, 54, 55, 56, 57]) (N % 10) (N % 10 + 1) (by omega) (by simp; omega) rfl rfl (by simp only [str_eq]; rfl) rfl rfl (by omega) (by omega) ?_
  rw [dig_cut (by omega)]
  refine a_asg ?_
  refine o_nil (hK _ _ ?_)
  clear hK K
  refine wk_seq fun K hK => ?_
  refine wk_seq fun K2 hK2 => ?_
  refine wk_reg ?_
  refine a_mov ?_
  refine o_quo rfl rfl rfl (by omega) (by omega) (wrap_u64 (by omega)) ?_
  refine a_asg ?_
  refine o_nil (hK2 _ _ ?_)
  clear hK2 K2
  rw [hq]
  refine wk_block ?_
  refine wk_loopH [] rfl (fun q : Nat × Tx => [(0, .int .u64 (q.1 : Int)), (3, str q.2)]) (fun q w' => (q.1 ≤ 1000000 ∧ ((q.1 = 0 ∧ q.2 = decS N) ∨ (0 < q.1 ∧ decS q.1 ++ q.2 = decS N))) ∧ w' = w) (fun q => q.1) (N / 10, [(48 + N % 10).toUInt8]) ⟨rfl, rfl, trivial⟩ ⟨⟨by simp only; omega, ?_⟩, rfl⟩ ?_
  · simp only
    by_cases h : N < 10
    · refine .inl ⟨by omega, ?_⟩
      rw [decS_small h, Nat.mod_eq_of_lt h]
    · refine .inr ⟨by omega, ?_⟩
      rw [decS_big h]
  rintro ⟨m, acc⟩ t _ ⟨⟨hm1, hinv⟩, rfl⟩
  simp only at hm1 hinv
  refine wk_seq fun K1 hK1 => ?_
  refine wk_seq fun K2 hK2 => ?_
  refine wk_reg ?_
  rcases hinv with ⟨rfl, rfl⟩ | ⟨hpos, hinv⟩
  · repeat' (first | refine a_mov ?_ | refine a_asg ?_ | refine a_binN ?_ | refine a_notd ?_ | refine a_notb ?_ | refine a_nilc ?_ | refine a_fa ?_ | refine a_ext ?_ | refine a_lenv ?_ | refine a_lens ?_ | refine a_pick_t ?_ | refine a_pick_f ?_ | refine a_not ?_ | refine a_nilf ?_ | (refine a_bin ?_ ?_ <;> intro _ <;> try (exfalso; omega)) | refine a_ld hl ?_ | (refine a_st hl ?_; clear hl; intro _ hl) | refine a_ix (fun _ => ?_) | fail)
    refine o_nil (hK2 _ _ ?_)
    clear hK2 K2
    refine wk_cond_f rfl ?_
    refine wk_exit ?_
    refine blockK_same ?_
    refine hK _ _ ?_
    clear hK1 K1
    clear hK K
    refine wk_seq fun K hK => ?_
    refine wk_reg ?_
    repeat' (first | refine a_mov ?_ | refine a_asg ?_ | refine a_binN ?_ | refine a_notd ?_ | refine a_notb ?_ | refine a_nilc ?_ | refine a_fa ?_ | refine a_ext ?_ | refine a_lenv ?_ | refine a_lens ?_ | refine a_pick_t ?_ | refine a_pick_f ?_ | refine a_not ?_ | refine a_nilf ?_ | (refine a_bin ?_ ?_ <;> intro _ <;> try (exfalso; omega)) | refine a_ld hl ?_ | (refine a_st hl ?_; clear hl; intro _ hl) | refine a_ix (fun _ => ?_) | fail)
    refine o_nil (hK _ _ ?_)
    refine wk_ret (retQ_tmp1 Tryz.results93 (by decide) rfl (by conv => lhs; whnf) ?_)
    exact ⟨rfl, rfl⟩
  · have hacc : acc.length ≤ 7 := by
      have := congrArg List.length hinv
      rw [List.length_append] at this
      omega
    repeat' (first | refine a_mov ?_ | refine a_asg ?_ | refine a_binN ?_ | refine a_notd ?_ | refine a_notb ?_ | refine a_nilc ?_ | refine a_fa ?_ | refine a_ext ?_ | refine a_lenv ?_ | refine a_lens ?_ | refine a_pick_t ?_ | refine a_pick_f ?_ | refine a_not ?_ | refine a_nilf ?_ | (refine a_bin ?_ ?_ <;> intro _ <;> try (exfalso; omega)) | refine a_ld hl ?_ | (refine a_st hl ?_; clear hl; intro _ hl) | refine a_ix (fun _ => ?_) | fail)
    refine o_nil (hK2 _ _ ?_)
    clear hK2 K2
    refine wk_cond_t rfl ?_
    refine wk_skip (hK1 _ _ ?_)
    clear hK1 K1
    refine wk_seq fun K1 hK1 => ?_
    refine wk_block ?_
    refine wk_reg ?_
    refine a_mov ?_
    refine o_rem rfl rfl rfl (by omega) (by omega) ?_
    refine a_mov ?_
    refine o_rem rfl rfl rfl (by omega) (by omega) ?_
    refine o_binK (c := (m : Int) % 10 + 1) rfl rfl rfl rfl (wrap_u64 (by omega)) ?_
    refine o_cut2 (bs := [48, 49, 50, 51, 52, 53, 54, 55, 56, 57]) (m % 10) (m % 10 + 1) (by omega) (by simp; omega) rfl rfl (by simp only [str_eq]; rfl) rfl rfl (by omega) (by omega) ?_
    rw [dig_cut (by omega)]
    refine a_mov ?_
    refine o_cat (a := [(48 + m % 10).toUInt8]) (b := acc) (by simp; omega) rfl rfl rfl ?_
    refine a_asg ?_
    refine o_nil (hK1 _ _ ?_)
    clear hK1 K1
    refine wk_reg ?_
    refine a_mov ?_
    refine o_quo rfl rfl rfl (by omega) (by omega) (wrap_u64 (by omega)) ?_
    refine a_asg ?_
    rw [hq]
    refine o_nil ⟨(m / 10, [(48 + m % 10).toUInt8] ++ acc), ⟨rfl, rfl, trivial⟩, rfl, ⟨⟨by simp only; omega, ?_⟩, rfl⟩, by simp only; omega⟩
    simp only
    by_cases h : m < 10
    · refine .inl ⟨by omega, ?_⟩
      rw [← hinv, decS_small h, Nat.mod_eq_of_lt h]
    · refine .inr ⟨by omega, ?_⟩
      rw [← hinv, decS_big h, List.append_assoc]
theorem decimalR_calls {z : Int} (h0 : 0 ≤ z) (h1 : z ≤ 1000000) (w : World) : Calls Tryz.prog 68 #[.int .i64 z] w (fun e w' => ∃ x, e = .returned x ∧ x = str (decS z.toNat) ∧ w' = w) := by
  obtain ⟨N, rfl⟩ := Int.eq_ofNat_of_zero_le h0
  rw [Int.toNat_natCast]
  refine calls_of Tryz.func68 rfl Tryz.ntmps68 rfl ?_
  refine wk_seq fun K hK => ?_
  refine wk_reg ?_
  refine a_asg ?_
  refine o_nil (hK _ _ ?_)
  clear hK K
  refine wk_seq fun K hK => ?_
  refine wk_seq fun K2 hK2 => ?_
  refine wk_reg ?_
  repeat' (first | refine a_mov ?_ | refine a_asg ?_ | refine a_binN ?_ | refine a_notd ?_ | refine a_notb ?_ | refine a_nilc ?_ | refine a_fa ?_ | refine a_ext ?_ | refine a_lenv ?_ | refine a_lens ?_ | refine a_pick_t ?_ | refine a_pick_f ?_ | refine a_not ?_ | refine a_nilf ?_ | (refine a_bin ?_ ?_ <;> intro _ <;> try (exfalso; omega)) | refine a_ld hl ?_ | (refine a_st hl ?_; clear hl; intro _ hl) | refine a_ix (fun _ => ?_) | fail)
  refine o_nil (hK2 _ _ ?_)
  clear hK2 K2
  refine wk_cond_f rfl ?_
  refine wk_skip (hK _ _ ?_)
  clear hK K
  refine wk_seq fun K hK => ?_
  refine wk_reg ?_
  refine a_mov ?_
  refine a_cvK (z := (N : Int)) ?_ (wrap_u64 (by omega))
  refine a_fn (digitsR_calls (N := N) (by omega) w) ?_
  rintro _ _ ⟨rfl, rfl⟩
  refine a_asg ?_
  refine o_nil (hK _ _ ?_)
  refine wk_ret (retQ_tmp1 Tryz.results68 (by decide) rfl (by conv => lhs; whnf) ?_)
  exact ⟨rfl, rfl⟩
set_option maxHeartbeats 4000000 in
theorem write_calls : ∀ (s : Sn) (inner : Bool) (w : World) (kv : Value), okB s = true → fitS s → cnt s ≤ 1000000 → KA w s.kids kv → Calls Tryz.prog 35 #[.agg (snL s kv).toArray, .bool inner] w (fun e w' => ∃ v, e = .returned v ∧ v = str (wr inner s) ∧ Ext w w') := Sn.ind fun s ih => by
  intro inner w kv hokS hfit hcnt hk
  obtain ⟨ka, kc, rfl, -⟩ := hk.shape
  obtain ⟨hf1, hf2, hkf⟩ := (fitS_eq s).1 hfit
  have hwe0 := wr_eq inner s
  have hce := cnt_eq s
  refine calls_of Tryz.func35 rfl Tryz.ntmps35 rfl ?_
  refine wk_seq fun K hK => ?_
  refine wk_reg ?_
  refine o_box (LH.start w (fun _ => False)) (snL s (.slice ka s.kids.length kc)) rfl rfl rfl ?_
  intro b2 w1 hb2 hl
  refine a_asg ?_
  refine o_nil (hK _ _ ?_)
  clear hK K
  refine wk_seq fun K hK => ?_
  refine wk_reg ?_
  refine o_buildSlice hl (wrdL.map str) rfl rfl (by simp only [wrdL, List.map_cons, List.map_nil, str_eq]; kernel_rfl) ?_
  clear hl
  intro b8 w2 hb8 hl
  have hr : Row w2 b2 0 (snL s (.slice ka s.kids.length kc)) := hl.rowL (vs := snL s (.slice ka s.kids.length kc)) 1 0 4 rfl
  have hrw : Row w2 b8 0 (wrdL.map str) := hl.rowL (vs := wrdL.map str) 0 0 8 rfl
  have hx2 := hl.done
  clear hl
  refine a_asg ?_
  refine o_nil (hK _ _ ?_)
  clear hK K
  refine wk_seq fun K hK => ?_
  refine wk_seq fun K2 hK2 => ?_
  refine wk_reg ?_
  rcases node_cases hokS with ⟨h3, -, -, hd0, hd1⟩ | ⟨h3, h31, h32, -, -, -⟩ | ⟨h31, h32, hnm, -, -⟩ | ⟨h8, -, hk2, -, hokk⟩
  · rw [if_pos h3] at hwe0
    have hdl := decS_len 6 s.day.toNat (by omega)
    repeat' (first | refine a_mov ?_ | refine a_asg ?_ | refine a_binN ?_ | refine a_notd ?_ | refine a_notb ?_ | refine a_nilc ?_ | refine a_fa ?_ | refine a_ext ?_ | refine a_lenv ?_ | refine a_lens ?_ | refine a_pick_t ?_ | refine a_pick_f ?_ | refine a_not ?_ | refine a_nilf ?_ | (refine a_bin ?_ ?_ <;> intro _ <;> try (exfalso; omega)) | refine a_ld hl ?_ | (refine a_st hl ?_; clear hl; intro _ hl) | refine a_ix (fun _ => ?_) | refine a_row hr ?_ | fail)
    refine o_nil (hK2 _ _ ?_)
    clear hK2 K2
    refine wk_cond_t rfl ?_
    refine wk_seq fun K2 hK2 => ?_
    refine wk_reg ?_
    refine a_fa ?_
    refine a_row hr ?_
    refine a_fn (decimalR_calls hd0 hd1 w2) ?_
    rintro _ _ ⟨rfl, rfl⟩
    refine o_cat (a := [100, 97, 121, 32]) (b := decS s.day.toNat) (by simp; omega) rfl (by simp only [str_eq]; rfl) rfl ?_
    refine a_asg ?_
    refine o_nil (hK2 _ _ ?_)
    refine wk_ret (retQ_tmp1 Tryz.results35 (by decide) rfl (by conv => lhs; whnf) ?_)
    rw [hwe0]
    exact ⟨rfl, hx2⟩
  · rw [if_neg h3, if_pos h32] at hwe0
    obtain ⟨k, hk1⟩ : ∃ k : Nat, s.op = (k : Int) := ⟨s.op.toNat, by omega⟩
    have hkb : 1 ≤ k ∧ k < 3 := by omega
    have hk' : k < wrdL.length := by simp only [wrdL, List.length_cons, List.length_nil]; omega
    obtain ⟨hwe, hwl⟩ := wrdL_at k hk' (by omega)
    have hcell : Row w2 b8 (0 + k * 1) [str wrdL[k]] := fun j v hj => by
      cases j with
      | zero =>
        have := hrw k (str wrdL[k]) (by simp [hk'])
        simp at hj
        rw [← hj]
        simpa using this
      | succ j => simp at hj
    repeat' (first | refine a_mov ?_ | refine a_asg ?_ | refine a_binN ?_ | refine a_notd ?_ | refine a_notb ?_ | refine a_nilc ?_ | refine a_fa ?_ | refine a_ext ?_ | refine a_lenv ?_ | refine a_lens ?_ | refine a_pick_t ?_ | refine a_pick_f ?_ | refine a_not ?_ | refine a_nilf ?_ | (refine a_bin ?_ ?_ <;> intro _ <;> try (exfalso; omega)) | refine a_ld hl ?_ | (refine a_st hl ?_; clear hl; intro _ hl) | refine a_ix (fun _ => ?_) | refine a_row hr ?_ | fail)
    refine o_nil (hK2 _ _ ?_)
    clear hK2 K2
    refine wk_cond_f rfl ?_
    refine wk_skip (hK _ _ ?_)
    clear hK K
    refine wk_seq fun K hK => ?_
    refine wk_seq fun K2 hK2 => ?_
    refine wk_reg ?_
    repeat' (first | refine a_mov ?_ | refine a_asg ?_ | refine a_binN ?_ | refine a_notd ?_ | refine a_notb ?_ | refine a_nilc ?_ | refine a_fa ?_ | refine a_ext ?_ | refine a_lenv ?_ | refine a_lens ?_ | refine a_pick_t ?_ | refine a_pick_f ?_ | refine a_not ?_ | refine a_nilf ?_ | (refine a_bin ?_ ?_ <;> intro _ <;> try (exfalso; omega)) | refine a_ld hl ?_ | (refine a_st hl ?_; clear hl; intro _ hl) | refine a_ix (fun _ => ?_) | refine a_row hr ?_ | fail)
    refine o_nil (hK2 _ _ ?_)
    clear hK2 K2
    refine wk_cond_t rfl ?_
    refine wk_seq fun K2 hK2 => ?_
    refine wk_reg ?_
    repeat' (first | refine a_mov ?_ | refine a_asg ?_ | refine a_binN ?_ | refine a_notd ?_ | refine a_notb ?_ | refine a_nilc ?_ | refine a_fa ?_ | refine a_ext ?_ | refine a_lenv ?_ | refine a_lens ?_ | refine a_pick_t ?_ | refine a_pick_f ?_ | refine a_not ?_ | refine a_nilf ?_ | (refine a_bin ?_ ?_ <;> intro _ <;> try (exfalso; omega)) | refine a_ld hl ?_ | (refine a_st hl ?_; clear hl; intro _ hl) | refine a_ix (fun _ => ?_) | refine a_row hr ?_ | refine a_idx (c := 1) k rfl ?_ | refine a_row hcell ?_ | fail)
    refine o_nil (hK2 _ _ ?_)
    refine wk_ret (retQ_tmp1 Tryz.results35 (by decide) rfl (by conv => lhs; whnf) ?_)
    rw [hwe0, hk1, ← hwe]
    exact ⟨rfl, hx2⟩
  · rw [if_neg (by omega), if_neg (by omega), if_pos h32] at hwe0
    obtain ⟨k, hk1⟩ : ∃ k : Nat, s.op = (k : Int) := ⟨s.op.toNat, by omega⟩
    have hkb : 3 < k ∧ k ≤ 7 := by omega
    have hnl := (nameB_ok hnm).2.2
    have hk' : k < wrdL.length := by simp only [wrdL, List.length_cons, List.length_nil]; omega
    obtain ⟨hwe, hwl⟩ := wrdL_at k hk' (by omega)
    have hcell : Row w2 b8 (0 + k * 1) [str wrdL[k]] := fun j v hj => by
      cases j with
      | zero =>
        have := hrw k (str wrdL[k]) (by simp [hk'])
        simp at hj
        rw [← hj]
        simpa using this
      | succ j => simp at hj
    repeat' (first | refine a_mov ?_ | refine a_asg ?_ | refine a_binN ?_ | refine a_notd ?_ | refine a_notb ?_ | refine a_nilc ?_ | refine a_fa ?_ | refine a_ext ?_ | refine a_lenv ?_ | refine a_lens ?_ | refine a_pick_t ?_ | refine a_pick_f ?_ | refine a_not ?_ | refine a_nilf ?_ | (refine a_bin ?_ ?_ <;> intro _ <;> try (exfalso; omega)) | refine a_ld hl ?_ | (refine a_st hl ?_; clear hl; intro _ hl) | refine a_ix (fun _ => ?_) | refine a_row hr ?_ | fail)
    refine o_nil (hK2 _ _ ?_)
    clear hK2 K2
    refine wk_cond_f rfl ?_
    refine wk_skip (hK _ _ ?_)
    clear hK K
    refine wk_seq fun K hK => ?_
    refine wk_seq fun K2 hK2 => ?_
    refine wk_reg ?_
    repeat' (first | refine a_mov ?_ | refine a_asg ?_ | refine a_binN ?_ | refine a_notd ?_ | refine a_notb ?_ | refine a_nilc ?_ | refine a_fa ?_ | refine a_ext ?_ | refine a_lenv ?_ | refine a_lens ?_ | refine a_pick_t ?_ | refine a_pick_f ?_ | refine a_not ?_ | refine a_nilf ?_ | (refine a_bin ?_ ?_ <;> intro _ <;> try (exfalso; omega)) | refine a_ld hl ?_ | (refine a_st hl ?_; clear hl; intro _ hl) | refine a_ix (fun _ => ?_) | refine a_row hr ?_ | fail)
    refine o_nil (hK2 _ _ ?_)
    clear hK2 K2
    refine wk_cond_f rfl ?_
    refine wk_skip (hK _ _ ?_)
    clear hK K
    refine wk_seq fun K hK => ?_
    refine wk_seq fun K2 hK2 => ?_
    refine wk_reg ?_
    repeat' (first | refine a_mov ?_ | refine a_asg ?_ | refine a_binN ?_ | refine a_notd ?_ | refine a_notb ?_ | refine a_nilc ?_ | refine a_fa ?_ | refine a_ext ?_ | refine a_lenv ?_ | refine a_lens ?_ | refine a_pick_t ?_ | refine a_pick_f ?_ | refine a_not ?_ | refine a_nilf ?_ | (refine a_bin ?_ ?_ <;> intro _ <;> try (exfalso; omega)) | refine a_ld hl ?_ | (refine a_st hl ?_; clear hl; intro _ hl) | refine a_ix (fun _ => ?_) | refine a_row hr ?_ | fail)
    refine o_nil (hK2 _ _ ?_)
    clear hK2 K2
    refine wk_cond_t rfl ?_
    refine wk_seq fun K2 hK2 => ?_
    refine wk_quiet (List.range 10) ?_
    repeat' (first | refine q_mov ?_ | refine q_asg ?_ | refine q_fa ?_ | refine q_ext ?_ | refine q_binN ?_ | refine q_notd ?_ | refine q_notb ?_ | refine q_pick_t ?_ | refine q_pick_f ?_ | refine q_nilc ?_ | refine q_skip ?_ | refine q_lens ?_ | refine q_lenv ?_ | refine q_nil ?_ | refine q_ix (fun _ => ?_) | (refine q_bin ?_ ?_ <;> intro _ <;> try (exfalso; omega)) | refine q_row (fun w_ hw_ => hr.ext hw_) ?_ | refine q_idx (c := 1) k rfl ?_ | refine q_row (fun w_ hw_ => hcell.ext hw_) ?_ | refine q_pur (v := str (wrdL[k] ++ [32])) rfl rfl rfl (fun _ => by exact r_cat (a := wrdL[k]) (b := [32]) (by rw [List.length_singleton]; omega) rfl (by simp only [str_eq]; rfl)) ?_ | refine q_pur rfl rfl rfl (fun _ => r_cat (a := wrdL[k] ++ [32]) (b := s.name) (by rw [List.length_append, List.length_singleton]; omega) rfl rfl) ?_)
    intro w3 hx3
    refine hK2 _ _ ?_
    refine wk_ret (retQ_tmp1 Tryz.results35 (by decide) rfl (by conv => lhs; whnf) ?_)
    rw [hwe0, hk1, ← hwe, show wrdL[k] ++ 32 :: s.name = wrdL[k] ++ [32] ++ s.name by simp]
    exact ⟨rfl, hx2.trans hx3⟩
  · rw [if_neg (by omega), if_neg (by omega), if_neg (by omega)] at hwe0
    have hcall : ∀ (i : Nat) (hi : i < s.kids.length) (w_ : World) (kv1 : Value), KA w_ s.kids[i].kids kv1 → Calls Tryz.prog 35 #[.agg (snL s.kids[i] kv1).toArray, .bool true] w_ (fun e w' => ∃ v, e = .returned v ∧ v = str (wr true s.kids[i]) ∧ Ext w_ w') := fun i hi w_ kv1 h => by
      have hmem := List.getElem_mem hi
      have := cnt_le_of_mem hmem
      exact ih s.kids[i] hmem true w_ kv1 (hokk _ hmem) (fitL_mem hkf _ hmem) (by omega) h
    have hlen : ∀ i, (wrL (sepS s.op) (s.kids.take i)).length ≤ 40 * cntL s.kids := fun i => by
      have h1 := wrL_len s.op (s.kids.take i) fun k hk => wr_len k (hokk k (List.mem_of_mem_take hk))
      have h2 := cntL_take_le s.kids i
      omega
    repeat' (first | refine a_mov ?_ | refine a_asg ?_ | refine a_binN ?_ | refine a_notd ?_ | refine a_notb ?_ | refine a_nilc ?_ | refine a_fa ?_ | refine a_ext ?_ | refine a_lenv ?_ | refine a_lens ?_ | refine a_pick_t ?_ | refine a_pick_f ?_ | refine a_not ?_ | refine a_nilf ?_ | (refine a_bin ?_ ?_ <;> intro _ <;> try (exfalso; omega)) | refine a_ld hl ?_ | (refine a_st hl ?_; clear hl; intro _ hl) | refine a_ix (fun _ => ?_) | refine a_row hr ?_ | fail)
    refine o_nil (hK2 _ _ ?_)
    clear hK2 K2
    refine wk_cond_f rfl ?_
    refine wk_skip (hK _ _ ?_)
    clear hK K
    refine wk_seq fun K hK => ?_
    refine wk_seq fun K2 hK2 => ?_
    refine wk_reg ?_
    repeat' (first | refine a_mov ?_ | refine a_asg ?_ | refine a_binN ?_ | refine a_notd ?_ | refine a_notb ?_ | refine a_nilc ?_ | refine a_fa ?_ | refine a_ext ?_ | refine a_lenv ?_ | refine a_lens ?_ | refine a_pick_t ?_ | refine a_pick_f ?_ | refine a_not ?_ | refine a_nilf ?_ | (refine a_bin ?_ ?_ <;> intro _ <;> try (exfalso; omega)) | refine a_ld hl ?_ | (refine a_st hl ?_; clear hl; intro _ hl) | refine a_ix (fun _ => ?_) | refine a_row hr ?_ | fail)
    refine o_nil (hK2 _ _ ?_)
    clear hK2 K2
    refine wk_cond_f rfl ?_
    refine wk_skip (hK _ _ ?_)
    clear hK K
    refine wk_seq fun K hK => ?_
    refine wk_seq fun K2 hK2 => ?_
    refine wk_reg ?_
    repeat' (first | refine a_mov ?_ | refine a_asg ?_ | refine a_binN ?_ | refine a_notd ?_ | refine a_notb ?_ | refine a_nilc ?_ | refine a_fa ?_ | refine a_ext ?_ | refine a_lenv ?_ | refine a_lens ?_ | refine a_pick_t ?_ | refine a_pick_f ?_ | refine a_not ?_ | refine a_nilf ?_ | (refine a_bin ?_ ?_ <;> intro _ <;> try (exfalso; omega)) | refine a_ld hl ?_ | (refine a_st hl ?_; clear hl; intro _ hl) | refine a_ix (fun _ => ?_) | refine a_row hr ?_ | fail)
    refine o_nil (hK2 _ _ ?_)
    clear hK2 K2
    refine wk_cond_f rfl ?_
    refine wk_skip (hK _ _ ?_)
    clear hK K
    refine wk_seq fun K hK => ?_
    refine wk_reg ?_
    refine a_asg ?_
    refine o_nil (hK _ _ ?_)
    clear hK K
    refine wk_seq fun K hK => ?_
    refine wk_seq fun K2 hK2 => ?_
    refine wk_reg ?_
    refine a_asg ?_
    refine o_nil (hK2 _ _ ?_)
    clear hK2 K2
    refine wk_block ?_
    refine wk_loopH [] rfl (fun i : Nat => [(1, .bool inner), (2, .pointer (some ⟨b2, 0, none⟩)), (6, str (wrL (sepS s.op) (s.kids.take i))), (7, .int .i64 (i : Int))]) (fun i w' => i ≤ s.kids.length ∧ Ext w2 w') (fun i => s.kids.length - i) 0 ⟨rfl, rfl, (by rw [List.take_zero]; exact str_nil.symm), rfl, trivial⟩ ⟨Nat.zero_le _, .refl _ _⟩ ?_
    rintro i t w3 ⟨hi, hx⟩
    have hr3 := hr.ext hx
    refine wk_seq fun K1 hK1 => ?_
    refine wk_seq fun K2 hK2 => ?_
    refine wk_reg ?_
    by_cases hi1 : i < s.kids.length
    · obtain ⟨b, o, kv1, hpp, hrk, hk1⟩ := ((hk.ext hx2).ext hx).at hi1
      have hc := hcall i hi1 w3 kv1 hk1
      have hli := hlen i
      have hli1 := hlen (i + 1)
      have htk : s.kids.take (i + 1) = s.kids.take i ++ [s.kids[i]] := List.take_succ_eq_append_getElem hi1
      repeat' (first | refine a_mov ?_ | refine a_asg ?_ | refine a_binN ?_ | refine a_notd ?_ | refine a_notb ?_ | refine a_nilc ?_ | refine a_fa ?_ | refine a_ext ?_ | refine a_lenv ?_ | refine a_lens ?_ | refine a_pick_t ?_ | refine a_pick_f ?_ | refine a_not ?_ | refine a_nilf ?_ | (refine a_bin ?_ ?_ <;> intro _ <;> try (exfalso; omega)) | refine a_ld hl ?_ | (refine a_st hl ?_; clear hl; intro _ hl) | refine a_ix (fun _ => ?_) | refine a_row hr3 ?_ | fail)
      refine o_nil (hK2 _ _ ?_)
      clear hK2 K2
      refine wk_cond_t rfl ?_
      refine wk_skip (hK1 _ _ ?_)
      clear hK1 K1
      refine wk_seq fun K1 hK1 => ?_
      refine wk_block ?_
      obtain ⟨mid, hmid, hnext⟩ : ∃ mid : Tx, mid = (if i = 0 then [] else wrL (sepS s.op) (s.kids.take i) ++ (32 :: sepS s.op ++ [32])) ∧ mid ++ wr true s.kids[i] = wrL (sepS s.op) (s.kids.take (i + 1)) := by
        refine ⟨_, rfl, ?_⟩
        rw [htk]
        by_cases hz : i = 0
        · subst hz
          rw [if_pos rfl]
          simp [wrL, wrT]
        · rw [if_neg hz, wrL_snoc _ _ _ (fun h => by
            rw [List.take_eq_nil_iff] at h
            rcases h with h | h
            · exact hz h
            · rw [h] at hi1; simp at hi1)]
      have hmlen : mid.length + (wr true s.kids[i]).length ≤ 40 * cntL s.kids := by
        rw [← List.length_append, hnext]
        exact hli1
      refine wk_seq fun K2 hK2 => ?_
      refine wk_cut [] (fun z : Tx => [(1, .bool inner), (2, .pointer (some ⟨b2, 0, none⟩)), (6, str z), (7, .int .i64 (i : Int))]) (fun z w' => (if s.op = 8 then z = mid else z = wrL (sepS s.op) (s.kids.take i)) ∧ w' = w3) ?_ ?_
      · refine wk_seq fun K3 hK3 => ?_
        refine wk_reg ?_
        by_cases hz : i = 0
        · rw [if_pos hz] at hmid
          repeat' (first | refine a_mov ?_ | refine a_asg ?_ | refine a_binN ?_ | refine a_notd ?_ | refine a_notb ?_ | refine a_nilc ?_ | refine a_fa ?_ | refine a_ext ?_ | refine a_lenv ?_ | refine a_lens ?_ | refine a_pick_t ?_ | refine a_pick_f ?_ | refine a_not ?_ | refine a_nilf ?_ | (refine a_bin ?_ ?_ <;> intro _ <;> try (exfalso; omega)) | refine a_ld hl ?_ | (refine a_st hl ?_; clear hl; intro _ hl) | refine a_ix (fun _ => ?_) | refine a_row hr3 ?_ | fail)
          refine o_nil (hK3 _ _ ?_)
          clear hK3 K3
          refine wk_cond_f rfl ?_
          refine wk_skip ⟨_, ⟨rfl, rfl, rfl, rfl, trivial⟩, rfl, ?_, rfl⟩
          rw [hmid, hz]
          split <;> simp [wrL]
        · rw [if_neg hz] at hmid
          by_cases h88 : s.op = 8
          · have hsp : sepS s.op = [97, 110, 100] := by unfold sepS; rw [if_pos h88]; rfl
            repeat' (first | refine a_mov ?_ | refine a_asg ?_ | refine a_binN ?_ | refine a_notd ?_ | refine a_notb ?_ | refine a_nilc ?_ | refine a_fa ?_ | refine a_ext ?_ | refine a_lenv ?_ | refine a_lens ?_ | refine a_pick_t ?_ | refine a_pick_f ?_ | refine a_not ?_ | refine a_nilf ?_ | (refine a_bin ?_ ?_ <;> intro _ <;> try (exfalso; omega)) | refine a_ld hl ?_ | (refine a_st hl ?_; clear hl; intro _ hl) | refine a_ix (fun _ => ?_) | refine a_row hr3 ?_ | fail)
            refine o_nil (hK3 _ _ ?_)
            clear hK3 K3
            refine wk_cond_t rfl ?_
            refine wk_reg ?_
            refine a_mov ?_
            refine o_cat (a := wrL (sepS s.op) (s.kids.take i)) (b := [32, 97, 110, 100, 32]) (by simp; omega) rfl rfl (by simp only [str_eq]; rfl) ?_
            refine a_asg ?_
            refine o_nil ⟨_, ⟨rfl, rfl, rfl, rfl, trivial⟩, rfl, ?_, rfl⟩
            rw [if_pos h88, hmid, hsp]
            rfl
          · repeat' (first | refine a_mov ?_ | refine a_asg ?_ | refine a_binN ?_ | refine a_notd ?_ | refine a_notb ?_ | refine a_nilc ?_ | refine a_fa ?_ | refine a_ext ?_ | refine a_lenv ?_ | refine a_lens ?_ | refine a_pick_t ?_ | refine a_pick_f ?_ | refine a_not ?_ | refine a_nilf ?_ | (refine a_bin ?_ ?_ <;> intro _ <;> try (exfalso; omega)) | refine a_ld hl ?_ | (refine a_st hl ?_; clear hl; intro _ hl) | refine a_ix (fun _ => ?_) | refine a_row hr3 ?_ | fail)
            refine o_nil (hK3 _ _ ?_)
            clear hK3 K3
            refine wk_cond_f rfl ?_
            refine wk_skip ⟨_, ⟨rfl, rfl, rfl, rfl, trivial⟩, rfl, ?_, rfl⟩
            rw [if_neg h88]
      rintro z t w3 ⟨hz8, rfl⟩
      refine hK2 _ _ ?_
      clear hK2 K2
      refine wk_seq fun K2 hK2 => ?_
      refine wk_cut [] (fun _ : Unit => [(1, .bool inner), (2, .pointer (some ⟨b2, 0, none⟩)), (6, str mid), (7, .int .i64 (i : Int))]) (fun _ w' => w' = w3) ?_ ?_
      · refine wk_seq fun K3 hK3 => ?_
        refine wk_reg ?_
        by_cases h88 : s.op = 8
        · rw [if_pos h88] at hz8
          subst hz8
          repeat' (first | refine a_mov ?_ | refine a_asg ?_ | refine a_binN ?_ | refine a_notd ?_ | refine a_notb ?_ | refine a_nilc ?_ | refine a_fa ?_ | refine a_ext ?_ | refine a_lenv ?_ | refine a_lens ?_ | refine a_pick_t ?_ | refine a_pick_f ?_ | refine a_not ?_ | refine a_nilf ?_ | (refine a_bin ?_ ?_ <;> intro _ <;> try (exfalso; omega)) | refine a_ld hl ?_ | (refine a_st hl ?_; clear hl; intro _ hl) | refine a_ix (fun _ => ?_) | refine a_row hr3 ?_ | fail)
          all_goals
            refine o_nil (hK3 _ _ ?_)
            clear hK3 K3
            refine wk_cond_f rfl ?_
            exact wk_skip ⟨(), ⟨rfl, rfl, rfl, rfl, trivial⟩, rfl, rfl⟩
        · rw [if_neg h88] at hz8
          subst hz8
          by_cases hz : i = 0
          · rw [if_pos hz] at hmid
            repeat' (first | refine a_mov ?_ | refine a_asg ?_ | refine a_binN ?_ | refine a_notd ?_ | refine a_notb ?_ | refine a_nilc ?_ | refine a_fa ?_ | refine a_ext ?_ | refine a_lenv ?_ | refine a_lens ?_ | refine a_pick_t ?_ | refine a_pick_f ?_ | refine a_not ?_ | refine a_nilf ?_ | (refine a_bin ?_ ?_ <;> intro _ <;> try (exfalso; omega)) | refine a_ld hl ?_ | (refine a_st hl ?_; clear hl; intro _ hl) | refine a_ix (fun _ => ?_) | refine a_row hr3 ?_ | fail)
            refine o_nil (hK3 _ _ ?_)
            clear hK3 K3
            refine wk_cond_f rfl ?_
            refine wk_skip ⟨(), ⟨rfl, rfl, ?_, rfl, trivial⟩, rfl, rfl⟩
            show str (wrL (sepS s.op) (s.kids.take i)) = _
            rw [hmid, hz]
            simp [wrL]
          · rw [if_neg hz] at hmid
            have hsp : sepS s.op = [111, 114] := by unfold sepS; rw [if_neg h88]; rfl
            repeat' (first | refine a_mov ?_ | refine a_asg ?_ | refine a_binN ?_ | refine a_notd ?_ | refine a_notb ?_ | refine a_nilc ?_ | refine a_fa ?_ | refine a_ext ?_ | refine a_lenv ?_ | refine a_lens ?_ | refine a_pick_t ?_ | refine a_pick_f ?_ | refine a_not ?_ | refine a_nilf ?_ | (refine a_bin ?_ ?_ <;> intro _ <;> try (exfalso; omega)) | refine a_ld hl ?_ | (refine a_st hl ?_; clear hl; intro _ hl) | refine a_ix (fun _ => ?_) | refine a_row hr3 ?_ | fail)
            refine o_nil (hK3 _ _ ?_)
            clear hK3 K3
            refine wk_cond_t rfl ?_
            refine wk_reg ?_
            refine a_mov ?_
            refine o_cat (a := wrL (sepS s.op) (s.kids.take i)) (b := [32, 111, 114, 32]) (by simp; omega) rfl rfl (by simp only [str_eq]; rfl) ?_
            refine a_asg ?_
            refine o_nil ⟨(), ⟨rfl, rfl, ?_, rfl, trivial⟩, rfl, rfl⟩
            rw [hmid, hsp]
            rfl
      rintro _ t w3 rfl
      refine hK2 _ _ ?_
      clear hK2 K2
      refine wk_reg ?_
      repeat' (first | refine a_mov ?_ | refine a_asg ?_ | refine a_binN ?_ | refine a_notd ?_ | refine a_notb ?_ | refine a_nilc ?_ | refine a_fa ?_ | refine a_ext ?_ | refine a_lenv ?_ | refine a_lens ?_ | refine a_pick_t ?_ | refine a_pick_f ?_ | refine a_not ?_ | refine a_nilf ?_ | (refine a_bin ?_ ?_ <;> intro _ <;> try (exfalso; omega)) | refine a_ld hl ?_ | (refine a_st hl ?_; clear hl; intro _ hl) | refine a_ix (fun _ => ?_) | refine a_row hr3 ?_ | refine a_idx (c := 4) i hpp ?_ | refine a_all hrk ?_ | fail)
      refine a_fn hc ?_
      rintro _ w4 ⟨rfl, hx4⟩
      refine o_cat (a := mid) (b := wr true s.kids[i]) (by omega) rfl rfl rfl ?_
      rw [hnext]
      refine a_asg ?_
      refine o_nil (hK1 _ _ ?_)
      clear hK1 K1
      refine wk_reg ?_
      repeat' (first | refine a_mov ?_ | refine a_asg ?_ | refine a_binN ?_ | refine a_notd ?_ | refine a_notb ?_ | refine a_nilc ?_ | refine a_fa ?_ | refine a_ext ?_ | refine a_lenv ?_ | refine a_lens ?_ | refine a_pick_t ?_ | refine a_pick_f ?_ | refine a_not ?_ | refine a_nilf ?_ | (refine a_bin ?_ ?_ <;> intro _ <;> try (exfalso; omega)) | refine a_ld hl ?_ | (refine a_st hl ?_; clear hl; intro _ hl) | refine a_ix (fun _ => ?_) | fail)
      exact o_nil ⟨i + 1, ⟨rfl, rfl, rfl, rfl, trivial⟩, rfl, ⟨hi1, hx.trans hx4⟩, by omega⟩
    · obtain rfl : i = s.kids.length := by omega
      have hli := hlen s.kids.length
      rw [List.take_length] at hli ⊢
      repeat' (first | refine a_mov ?_ | refine a_asg ?_ | refine a_binN ?_ | refine a_notd ?_ | refine a_notb ?_ | refine a_nilc ?_ | refine a_fa ?_ | refine a_ext ?_ | refine a_lenv ?_ | refine a_lens ?_ | refine a_pick_t ?_ | refine a_pick_f ?_ | refine a_not ?_ | refine a_nilf ?_ | (refine a_bin ?_ ?_ <;> intro _ <;> try (exfalso; omega)) | refine a_ld hl ?_ | (refine a_st hl ?_; clear hl; intro _ hl) | refine a_ix (fun _ => ?_) | refine a_row hr3 ?_ | fail)
      refine o_nil (hK2 _ _ ?_)
      clear hK2 K2
      refine wk_cond_f rfl ?_
      refine wk_exit ?_
      refine blockK_same ?_
      refine hK _ _ ?_
      clear hK1 K1
      clear hK K
      refine wk_seq fun K hK => ?_
      refine wk_seq fun K2 hK2 => ?_
      refine wk_reg ?_
      refine a_mov ?_
      refine o_nil (hK2 _ _ ?_)
      clear hK2 K2
      cases inner
      · refine wk_cond_f rfl ?_
        refine wk_skip (hK _ _ ?_)
        clear hK K
        refine wk_seq fun K hK => ?_
        refine wk_reg ?_
        repeat' (first | refine a_mov ?_ | refine a_asg ?_ | refine a_binN ?_ | refine a_notd ?_ | refine a_notb ?_ | refine a_nilc ?_ | refine a_fa ?_ | refine a_ext ?_ | refine a_lenv ?_ | refine a_lens ?_ | refine a_pick_t ?_ | refine a_pick_f ?_ | refine a_not ?_ | refine a_nilf ?_ | (refine a_bin ?_ ?_ <;> intro _ <;> try (exfalso; omega)) | refine a_ld hl ?_ | (refine a_st hl ?_; clear hl; intro _ hl) | refine a_ix (fun _ => ?_) | fail)
        refine o_nil (hK _ _ ?_)
        refine wk_ret (retQ_tmp1 Tryz.results35 (by decide) rfl (by conv => lhs; whnf) ?_)
        rw [hwe0]
        exact ⟨rfl, hx2.trans hx⟩
      · refine wk_cond_t rfl ?_
        refine wk_seq fun K2 hK2 => ?_
        refine wk_reg ?_
        refine a_mov ?_
        refine o_cat (a := [40]) (b := wrL (sepS s.op) s.kids) (by simp; omega) rfl (by simp only [str_eq]; rfl) rfl ?_
        refine o_cat (a := [40] ++ wrL (sepS s.op) s.kids) (b := [41]) (by simp; omega) rfl rfl (by simp only [str_eq]; rfl) ?_
        refine a_asg ?_
        refine o_nil (hK2 _ _ ?_)
        refine wk_ret (retQ_tmp1 Tryz.results35 (by decide) rfl (by conv => lhs; whnf) ?_)
        rw [hwe0]
        exact ⟨rfl, hx2.trans hx⟩
theorem TextR_calls {s : Sn} {w : World} {kv : Value} (hd : dep s ≤ 1000000) (hfit : fitS s) (hk : KA w s.kids kv) : Calls Tryz.prog 17 #[.agg (snL s kv).toArray] w (fun e w' => ∃ v, e = .returned v ∧ v = (if validB s then .tuple #[str (textS s), .int .i64 0] else .tuple #[str [], .int .i64 1]) ∧ Ext w w') := by
  obtain ⟨ka, kc, rfl, -⟩ := hk.shape
  refine calls_of Tryz.func17 rfl Tryz.ntmps17 rfl ?_
  refine wk_seq fun K hK => ?_
  refine wk_reg ?_
  refine o_box (LH.start w (fun _ => False)) (snL s (.slice ka s.kids.length kc)) rfl rfl rfl ?_
  intro b2 w1 hb2 hl
  have hr : Row w1 b2 0 (snL s (.slice ka s.kids.length kc)) := hl.rowL (vs := snL s (.slice ka s.kids.length kc)) 0 0 4 rfl
  have hx1 := hl.done
  clear hl
  repeat' (first | refine a_mov ?_ | refine a_asg ?_ | refine a_binN ?_ | refine a_notd ?_ | refine a_notb ?_ | refine a_nilc ?_ | refine a_fa ?_ | refine a_ext ?_ | refine a_lenv ?_ | refine a_lens ?_ | refine a_pick_t ?_ | refine a_pick_f ?_ | refine a_not ?_ | refine a_nilf ?_ | (refine a_bin ?_ ?_ <;> intro _ <;> try (exfalso; omega)) | refine a_ld hl ?_ | (refine a_st hl ?_; clear hl; intro _ hl) | refine a_ix (fun _ => ?_) | fail)
  refine o_nil (hK _ _ ?_)
  clear hK K
  refine wk_seq fun K hK => ?_
  refine wk_seq fun K2 hK2 => ?_
  refine wk_reg ?_
  refine a_all hr ?_
  refine a_fn (validR_calls hd hfit (hk.ext hx1)) ?_
  rintro _ w2 ⟨rfl, hx2⟩
  refine a_notb ?_
  refine o_nil (hK2 _ _ ?_)
  clear hK2 K2
  cases hv : validB s
  · refine wk_cond_t rfl ?_
    refine wk_seq fun K2 hK2 => ?_
    refine wk_reg ?_
    repeat' (first | refine a_mov ?_ | refine a_asg ?_ | refine a_binN ?_ | refine a_notd ?_ | refine a_notb ?_ | refine a_nilc ?_ | refine a_fa ?_ | refine a_ext ?_ | refine a_lenv ?_ | refine a_lens ?_ | refine a_pick_t ?_ | refine a_pick_f ?_ | refine a_not ?_ | refine a_nilf ?_ | (refine a_bin ?_ ?_ <;> intro _ <;> try (exfalso; omega)) | refine a_ld hl ?_ | (refine a_st hl ?_; clear hl; intro _ hl) | refine a_ix (fun _ => ?_) | fail)
    refine o_nil (hK2 _ _ ?_)
    refine wk_ret (retQ_tmp2 Tryz.results17 (by decide) (by decide) rfl (by conv => lhs; whnf) (by conv => lhs; whnf) ?_)
    rw [if_neg (by decide), str_nil]
    exact ⟨rfl, hx1.trans hx2⟩
  · have hval : okB s = true ∧ cnt s ≤ 200 := by
      unfold validB at hv
      rw [decide_eq_true_eq] at hv
      have h1 := hv.1
      exact ⟨hv.2.2, by omega⟩
    refine wk_cond_f rfl ?_
    refine wk_skip (hK _ _ ?_)
    clear hK K
    refine wk_seq fun K hK => ?_
    refine wk_reg ?_
    refine a_all (hr.ext hx2) ?_
    refine a_fn (write_calls s false w2 (.slice ka s.kids.length kc) hval.1 hfit (by omega) ((hk.ext hx1).ext hx2)) ?_
    rintro _ w3 ⟨rfl, hx3⟩
    repeat' (first | refine a_mov ?_ | refine a_asg ?_ | refine a_binN ?_ | refine a_notd ?_ | refine a_notb ?_ | refine a_nilc ?_ | refine a_fa ?_ | refine a_ext ?_ | refine a_lenv ?_ | refine a_lens ?_ | refine a_pick_t ?_ | refine a_pick_f ?_ | refine a_not ?_ | refine a_nilf ?_ | (refine a_bin ?_ ?_ <;> intro _ <;> try (exfalso; omega)) | refine a_ld hl ?_ | (refine a_st hl ?_; clear hl; intro _ hl) | refine a_ix (fun _ => ?_) | fail)
    refine o_nil (hK _ _ ?_)
    refine wk_ret (retQ_tmp2 Tryz.results17 (by decide) (by decide) rfl (by conv => lhs; whnf) (by conv => lhs; whnf) ?_)
    rw [if_pos hv]
    exact ⟨rfl, (hx1.trans hx2).trans hx3⟩
end Go.Proofs
