/-
  The reference: numbers in decimal.
-/
import Derived.Test.YtcanaadgcgophaaDoorQFB
import Derived.Test.YtcanaadgcgophaaDoorQLZ
import Derived.Test.YtcanaadgcgophaaDoorQLD
import Derived.Test.YtcanaadgcgophaaDoorQLB
set_option linter.unusedVariables false
set_option linter.unusedSimpArgs false
set_option linter.unnecessarySimpa false
set_option maxRecDepth 10000
namespace Go.Pd
open Go
theorem wrap_u64 {x : Int} (h : 0 ≤ x ∧ x ≤ 18446744073709551615) : IntKind.wrap .u64 x = x := by
  simp only [IntKind.wrap, IntKind.signed, IntKind.bits]
  simp
  omega
section
variable {P : Program} {r : Option Nat} {n : Nat} {ops : Array Oper} {K : St → World → Prop} {X : List PanicEntry → St → World → Prop} {l : List Oper} {s : St} {w : World} {k : Nat} {ty : TypeId} {p : String} {af : Array Edge} {g : Option (Nat × Bool)}
theorem a_cvK {src dst : TypeId} {x : Operand} {ks kd : IntKind} {z : Int} (hk : OpsL P r n ops K X l (s.set k (.int kd z)) w) (hz : kd.wrap z = z) (hw : Region.wanted ⟨some k, .convert src dst x, ty, p, af, g⟩ (yieldedE ops n s) = true := by rfl) (hx : rd n s x = .int ks z := by rfl) (hs : P.underlying src = some (.int ks) := by rfl) (hd : P.underlying dst = some (.int kd) := by rfl) : OpsL P r n ops K X (⟨some k, .convert src dst x, ty, p, af, g⟩ :: l) s w := by
  refine o_val (w' := w) hw ?_ hk
  rw [Oper.semAt_eq _ _ _ (fun c e => by cases e)]
  have h1 : (convert src dst (.int ks z)).run P w = .ok (.int kd z) w := by
    unfold convert
    rw [sem_bind (run_underlying' hs w)]
    rw [sem_bind (run_underlying' hd w)]
    simp only [Conv.intToInt, hz]
    rfl
  simp only [execOp, hx]
  rw [sem_bind h1]
  rfl
end
end Go.Pd
namespace Go.Fac
theorem dig_cut {d : Nat} (h : d < 10) : (([48, 49, 50, 51, 52, 53, 54, 55, 56, 57] : Tx).take (d + 1)).drop d = [(48 + d).toUInt8] := by
  have : d = 0 ∨ d = 1 ∨ d = 2 ∨ d = 3 ∨ d = 4 ∨ d = 5 ∨ d = 6 ∨ d = 7 ∨ d = 8 ∨ d = 9 := by omega
  rcases this with rfl | rfl | rfl | rfl | rfl | rfl | rfl | rfl | rfl | rfl <;> rfl
end Go.Fac
namespace Go.Proofs
open Go Go.Pd Go.Fac
attribute [local irreducible] OpsL W RetQ OpsQ OpsC
theorem digitsR_calls {N : Nat} (hN : N ≤ 1000000) (w : World) : Calls Tryd.prog 67 #[.int .u64 (N : Int)] w (fun e w' => ∃ x, e = .returned x ∧ x = str (decS N) ∧ w' = w) := by
  have hlen := decS_len 6 N (by omega)
  have hm : ∀ m : Nat, (m : Int) % 10 = ((m % 10 : Nat) : Int) := fun m => by omega
  have hq : ∀ m : Nat, (m : Int) / 10 = ((m / 10 : Nat) : Int) := fun m => by omega
  refine calls_of Tryd.func67 rfl Tryd.ntmps67 rfl ?_
  refine wk_seq fun K hK => ?_
  refine wk_reg ?_
  refine a_asg ?_
  refine o_nil (hK _ _ ?_)
  clear hK K
  refine wk_seq fun K hK => ?_
  refine wk_reg ?_
  refine a_mov ?_
  refine o_rem rfl rfl rfl (by omega) (by omega) ?_
  refine a_mov ?_
  refine o_rem rfl rfl rfl (by omega) (by omega) ?_
  refine o_binK (c := (N : Int) % 10 + 1) rfl rfl rfl rfl (wrap_u64 (by omega)) ?_
  refine o_cut2 (bs := [48, 49, 50, 51, 52, 53, 54, 55, 56, 57]) (N % 10) (N % 10 + 1) (by omega) (by simp; omega) rfl rfl (by simp only [str_eq]; rfl) rfl rfl (by omega) (by omega) ?_
  rw [dig_cut (by omega)]
  refine a_asg ?_
  refine o_nil (hK _ _ ?_)
  clear hK K
  refine wk_seq fun K hK => ?_
  refine wk_seq fun K2 hK2 => ?_
  refine wk_reg ?_
  refine a_mov ?_
  refine o_quo rfl rfl rfl (by omega) (by omega) (wrap_u64 (by omega)) ?_
  refine a_asg ?_
  refine o_nil (hK2 _ _ ?_)
  clear hK2 K2
  rw [hq]
  refine wk_block ?_
  refine wk_loopH [] rfl (fun q : Nat × Tx => [(0, .int .u64 (q.1 : Int)), (3, str q.2)]) (fun q w' => (q.1 ≤ 1000000 ∧ ((q.1 = 0 ∧ q.2 = decS N) ∨ (0 < q.1 ∧ decS q.1 ++ q.2 = decS N))) ∧ w' = w) (fun q => q.1) (N / 10, [(48 + N % 10).toUInt8]) ⟨rfl, rfl, trivial⟩ ⟨⟨by simp only; omega, ?_⟩, rfl⟩ ?_
  · simp only
    by_cases h : N < 10
    · refine .inl ⟨by omega, ?_⟩
      rw [decS_small h, Nat.mod_eq_of_lt h]
    · refine .inr ⟨by omega, ?_⟩
      rw [decS_big h]
  rintro ⟨m, acc⟩ t _ ⟨⟨hm1, hinv⟩, rfl⟩
  simp only at hm1 hinv
  refine wk_seq fun K1 hK1 => ?_
  refine wk_seq fun K2 hK2 => ?_
  refine wk_reg ?_
  rcases hinv with ⟨rfl, rfl⟩ | ⟨hpos, hinv⟩
  · repeat' (first | refine a_mov ?_ | refine a_asg ?_ | refine a_binN ?_ | refine a_notd ?_ | refine a_notb ?_ | refine a_nilc ?_ | refine a_fa ?_ | refine a_ext ?_ | refine a_lenv ?_ | refine a_lens ?_ | refine a_pick_t ?_ | refine a_pick_f ?_ | refine a_not ?_ | refine a_nilf ?_ | (refine a_bin ?_ ?_ <;> intro _ <;> try (exfalso; omega)) | refine a_ld hl ?_ | (refine a_st hl ?_; clear hl; intro _ hl) | refine a_ix (fun _ => ?_) | fail)
    refine o_nil (hK2 _ _ ?_)
    clear hK2 K2
    refine wk_cond_f rfl ?_
    refine wk_exit ?_
    refine blockK_same ?_
    refine hK _ _ ?_
    clear hK1 K1
    clear hK K
    refine wk_seq fun K hK => ?_
    refine wk_reg ?_
    repeat' (first | refine a_mov ?_ | refine a_asg ?_ | refine a_binN ?_ | refine a_notd ?_ | refine a_notb ?_ | refine a_nilc ?_ | refine a_fa ?_ | refine a_ext ?_ | refine a_lenv ?_ | refine a_lens ?_ | refine a_pick_t ?_ | refine a_pick_f ?_ | refine a_not ?_ | refine a_nilf ?_ | (refine a_bin ?_ ?_ <;> intro _ <;> try (exfalso; omega)) | refine a_ld hl ?_ | (refine a_st hl ?_; clear hl; intro _ hl) | refine a_ix (fun _ => ?_) | fail)
    refine o_nil (hK _ _ ?_)
    refine wk_ret (retQ_tmp1 Tryd.results67 (by decide) rfl (by conv => lhs; whnf) ?_)
    exact ⟨rfl, rfl⟩
  · have hacc : acc.length ≤ 7 := by
      have := congrArg List.length hinv
      rw [List.length_append] at this
      omega
    repeat' (first | refine a_mov ?_ | refine a_asg ?_ | refine a_binN ?_ | refine a_notd ?_ | refine a_notb ?_ | refine a_nilc ?_ | refine a_fa ?_ | refine a_ext ?_ | refine a_lenv ?_ | refine a_lens ?_ | refine a_pick_t ?_ | refine a_pick_f ?_ | refine a_not ?_ | refine a_nilf ?_ | (refine a_bin ?_ ?_ <;> intro _ <;> try (exfalso; omega)) | refine a_ld hl ?_ | (refine a_st hl ?_; clear hl; intro _ hl) | refine a_ix (fun _ => ?_) | fail)
    refine o_nil (hK2 _ _ ?_)
    clear hK2 K2
    refine wk_cond_t rfl ?_
    refine wk_skip (hK1 _ _ ?_)
    clear hK1 K1
    refine wk_seq fun K1 hK1 => ?_
    refine wk_block ?_
    refine wk_reg ?_
    refine a_mov ?_
    refine o_rem rfl rfl rfl (by omega) (by omega) ?_
    refine a_mov ?_
    refine o_rem rfl rfl rfl (by omega) (by omega) ?_
    refine o_binK (c := (m : Int) % 10 + 1) rfl rfl rfl rfl (wrap_u64 (by omega)) ?_
    refine o_cut2 (bs := [48, 49, 50, 51, 52, 53, 54, 55, 56, 57]) (m % 10) (m % 10 + 1) (by omega) (by simp; omega) rfl rfl (by simp only [str_eq]; rfl) rfl rfl (by omega) (by omega) ?_
    rw [dig_cut (by omega)]
    refine a_mov ?_
    refine o_cat (a := [(48 + m % 10).toUInt8]) (b := acc) (by simp; omega) rfl rfl rfl ?_
    refine a_asg ?_
    refine o_nil (hK1 _ _ ?_)
    clear hK1 K1
    refine wk_reg ?_
    refine a_mov ?_
    refine o_quo rfl rfl rfl (by omega) (by omega) (wrap_u64 (by omega)) ?_
    refine a_asg ?_
    rw [hq]
    refine o_nil ⟨(m / 10, [(48 + m % 10).toUInt8] ++ acc), ⟨rfl, rfl, trivial⟩, rfl, ⟨⟨by simp only; omega, ?_⟩, rfl⟩, by simp only; omega⟩
    simp only
    by_cases h : m < 10
    · refine .inl ⟨by omega, ?_⟩
      rw [← hinv, decS_small h, Nat.mod_eq_of_lt h]
    · refine .inr ⟨by omega, ?_⟩
      rw [← hinv, decS_big h, List.append_assoc]
theorem decimalR_calls {z : Int} (h0 : 0 ≤ z) (h1 : z ≤ 1000000) (w : World) : Calls Tryd.prog 57 #[.int .i64 z] w (fun e w' => ∃ x, e = .returned x ∧ x = str (decS z.toNat) ∧ w' = w) := by
  obtain ⟨N, rfl⟩ := Int.eq_ofNat_of_zero_le h0
  rw [Int.toNat_natCast]
  refine calls_of Tryd.func57 rfl Tryd.ntmps57 rfl ?_
  refine wk_seq fun K hK => ?_
  refine wk_reg ?_
  refine a_asg ?_
  refine o_nil (hK _ _ ?_)
  clear hK K
  refine wk_seq fun K hK => ?_
  refine wk_seq fun K2 hK2 => ?_
  refine wk_reg ?_
  repeat' (first | refine a_mov ?_ | refine a_asg ?_ | refine a_binN ?_ | refine a_notd ?_ | refine a_notb ?_ | refine a_nilc ?_ | refine a_fa ?_ | refine a_ext ?_ | refine a_lenv ?_ | refine a_lens ?_ | refine a_pick_t ?_ | refine a_pick_f ?_ | refine a_not ?_ | refine a_nilf ?_ | (refine a_bin ?_ ?_ <;> intro _ <;> try (exfalso; omega)) | refine a_ld hl ?_ | (refine a_st hl ?_; clear hl; intro _ hl) | refine a_ix (fun _ => ?_) | fail)
  refine o_nil (hK2 _ _ ?_)
  clear hK2 K2
  refine wk_cond_f rfl ?_
  refine wk_skip (hK _ _ ?_)
  clear hK K
  refine wk_seq fun K hK => ?_
  refine wk_reg ?_
  refine a_mov ?_
  refine a_cvK (z := (N : Int)) ?_ (wrap_u64 (by omega))
  refine a_fn (digitsR_calls (N := N) (by omega) w) ?_
  rintro _ _ ⟨rfl, rfl⟩
  refine a_asg ?_
  refine o_nil (hK _ _ ?_)
  refine wk_ret (retQ_tmp1 Tryd.results57 (by decide) rfl (by conv => lhs; whnf) ?_)
  exact ⟨rfl, rfl⟩
end Go.Proofs
