/-
  The statement about more, walked.
-/
import Derived.Test.YtebaoilkpedppaaGreatDoorStAa
import Derived.Test.YtebaoilkpedppaaGreatDoorStAb
import Derived.Test.YtebaoilkpedppaaGreatDoorTree3
set_option linter.unusedVariables false
set_option linter.unusedSimpArgs false
set_option linter.unnecessarySimpa false
set_option maxRecDepth 10000
namespace Go.Pd
open Go
section
variable {P : Program} {r : Option Nat} {n : Nat} {ops : Array Oper} {K : St → World → Prop} {X : List PanicEntry → St → World → Prop} {l : List Oper} {s : St} {w : World} {k : Nat} {ty : TypeId} {p : String} {af : Array Edge} {g : Option (Nat × Bool)}
theorem a_cvI {src dst : TypeId} {x : Operand} {ks kd : IntKind} {z : Int} (hk : OpsL P r n ops K X l (s.set k (.int kd z)) w) (hz : kd.wrap z = z) (hw : Region.wanted ⟨some k, .convert src dst x, ty, p, af, g⟩ (yieldedE ops n s) = true := by rfl) (hx : rd n s x = .int ks z := by rfl) (hs : P.underlying src = some (.int ks) := by rfl) (hd : P.underlying dst = some (.int kd) := by rfl) : OpsL P r n ops K X (⟨some k, .convert src dst x, ty, p, af, g⟩ :: l) s w := by
  refine o_val (w' := w) hw ?_ hk
  rw [Oper.semAt_eq _ _ _ (fun c e => by cases e)]
  have h1 : (convert src dst (.int ks z)).run P w = .ok (.int kd z) w := by
    unfold convert
    rw [sem_bind (run_underlying' hs w)]
    rw [sem_bind (run_underlying' hd w)]
    simp only [Conv.intToInt, hz]
    rfl
  simp only [execOp, hx]
  rw [sem_bind h1]
  rfl
end
end Go.Pd
namespace Go.Proofs
open Go Go.Pd Go.Sta
attribute [local irreducible] OpsL W RetQ OpsQ OpsC
/-- Statuses with days that are numbers of a machine. -/
def StuIn2 (w : World) (l : List Stu) (v : Value) : Prop := Sl w v 4 (l.flatMap stuL) ∧ l.length ≤ 140737488351232 ∧ ∀ x ∈ l, (-9223372036854775808 ≤ x.begin_ ∧ x.begin_ ≤ 9223372036854775807) ∧ (-9223372036854775808 ≤ x.end_ ∧ x.end_ ≤ 9223372036854775807)
theorem open_stus2 {H : Type} {enc : TypeId × Value → H} {W : World} {r : Go.Reach} {base n : Nat} {v : Value} (hv : Value.okWide Tryz.prog W r base 36 v) (h : Rd enc Tryz.prog W n 36 v.cells.toList) : ∃ l : List Stu, StuIn2 W l v := by
  obtain ⟨L, h1, h2, h3⟩ := Rd.sl (f := stuL) (Q := fun x => (-9223372036854775808 ≤ x.begin_ ∧ x.begin_ ≤ 9223372036854775807) ∧ (-9223372036854775808 ≤ x.end_ ∧ x.end_ ≤ 9223372036854775807)) Tryz.underlying36 (show Tryz.prog.cellsOf 41 = 4 by kernel_rfl) (by decide) (by decide +kernel) hv h fun n' cs hr => by
    have hs : flatSh Tryz.prog 3 41 = some [.str, .int .i64, .int .i64, .int .i64] := by kernel_rfl
    obtain ⟨hl, hc⟩ := Rd.flat 3 hs hr
    match cs, hl with
    | [c0, c1, c2, c3], _ =>
      obtain ⟨s0, rfl, h0⟩ := hc 0 _ c0 rfl rfl
      obtain ⟨z1, rfl, hz1⟩ := hc 1 _ c1 rfl rfl
      obtain ⟨z2, rfl, hz2⟩ := hc 2 _ c2 rfl rfl
      obtain ⟨z3, rfl, -⟩ := hc 3 _ c3 rfl rfl
      exact ⟨⟨s0, z1, z2, z3⟩, rfl, wf_i64 hz1, wf_i64 hz2⟩
  exact ⟨L, h1, h2, h3⟩
theorem stuL_one2 (x : Stu) : (stuL x).all Value.oneCell' = true := by
  simp only [stuL, List.all_cons, List.all_nil, oneCell_str]
  rfl
theorem hapL_one (x : Hap) : (hapL x).all Value.oneCell' = true := by
  simp only [hapL, List.all_cons, List.all_nil, oneCell_str]
  rfl
theorem wrap64 {n : Nat} (h : n < 256) : IntKind.i64.wrap (n : Int) = n := wrap_i64 (by omega)
set_option maxHeartbeats 8000000 in
theorem Monotone_calls {s : Sn} {E : Env} {x : Hap} {later more : Int} {by_ : Nat} {kv hv lv : Value} {w : World} (ht : Tabs w) (hs : SnIn w s kv) (hH : HapIn w E.h hv) (hL : StuIn2 w E.l lv) (hby : by_ < 256) :
    Calls Tryz.prog 4 #[.agg (snL s kv).toArray, .int .i64 E.day, .int .i64 later, hv, .int .i64 E.known, .int .i64 more, lv, .agg (hapL x).toArray, .int .u8 (by_ : Int)] w (fun e w' => ∃ v, e = .returned v ∧ v = .bool true ∧ Ext w w') := by
  obtain ⟨hk, hfit⟩ := hs
  obtain ⟨ka, kc, rfl, hkc⟩ := hk.shape
  obtain ⟨ha, hc, rfl, -⟩ := hH.1.shape (flat_length hapL_len E.h) (by omega)
  obtain ⟨la, lc, rfl, -⟩ := hL.1.shape (flat_length stuL_len E.l) (by omega)
  refine calls_of Tryz.func4 rfl Tryz.ntmps4 rfl ?_
  refine wk_seq fun K hK => ?_
  refine wk_reg ?_
  refine o_box (LH.start w (fun _ => False)) (snL s (.slice ka s.kids.length kc)) rfl rfl rfl ?_
  intro b9 w1 hb9 hl
  refine o_box hl (hapL x) rfl rfl rfl ?_
  clear hl
  intro b16 w2 hb16 hl
  have hx2 := hl.done
  have hr9 : Row w2 b9 0 (snL s (.slice ka s.kids.length kc)) := hl.rowL (vs := snL s (.slice ka s.kids.length kc)) 1 0 4 rfl
  have hr16 : Row w2 b16 0 (hapL x) := hl.rowL (vs := hapL x) 0 0 4 rfl
  clear hl
  refine a_asg ?_
  refine o_nil (hK _ _ ?_)
  clear hK K
  refine wk_seq fun K hK => ?_
  refine wk_reg ?_
  refine a_fn (head_calls (ht.ext hx2)) ?_
  rintro _ w3 ⟨rfl, hx3⟩
  refine a_asg ?_
  refine o_nil (hK _ _ ?_)
  clear hK K
  have hx3' := hx2.trans hx3
  replace hr9 := hr9.ext hx3
  replace hr16 := hr16.ext hx3
  clear hx2 hx3
  refine wk_seq fun K hK => ?_
  refine wk_cut [] (fun _ : Unit => [(1, .int .i64 E.day), (2, .int .i64 later), (3, .slice ha E.h.length hc), (4, .int .i64 E.known), (5, .int .i64 more), (6, .slice la E.l.length lc), (8, .int .u8 (by_ : Int)), (9, .pointer (some ⟨b9, 0, none⟩)), (16, .pointer (some ⟨b16, 0, none⟩)), (19, .bool true)]) (fun _ w' => (E.h.length ≤ 30 ∧ E.l.length ≤ 30 ∧ E.day ≤ later ∧ E.known ≤ more ∧ holds E s = true) ∧ Ext w3 w') ?_ ?_
  · refine wk_seq fun K2 hK2 => ?_
    refine wk_reg ?_
    refine a_all hr9 ?_
    refine a_mov ?_
    refine a_mov ?_
    refine a_fn (few_calls (hk.ext hx3')) ?_
    rintro _ w4 ⟨bf, rfl, hfew, hx4⟩
    have hup : ∀ (w' : World), Ext w3 w' → Ext w w' := fun w' h => hx3'.trans h
    rcases Classical.em (bf = true ∧ E.day ≤ later ∧ E.known ≤ more) with hgo | hgo
    rotate_left
    · cases bf
      · repeat' (first | refine a_mov ?_ | refine a_asg ?_ | refine a_binN ?_ | refine a_notd ?_ | refine a_notb ?_ | refine a_nilc ?_ | refine a_fa ?_ | refine a_ext ?_ | refine a_lenv ?_ | refine a_lens ?_ | refine a_pick_t ?_ | refine a_pick_f ?_ | refine a_not ?_ | refine a_nilf ?_ | (refine a_bin ?_ ?_ <;> intro _ <;> try (exfalso; omega)) | refine a_ld hl ?_ | (refine a_st hl ?_; clear hl; intro _ hl) | refine a_ix (fun _ => ?_) | fail)
        refine o_nil (hK2 _ _ ?_)
        clear hK2 K2
        refine wk_cond_t rfl ?_
        refine wk_seq fun K2 hK2 => ?_
        refine wk_reg ?_
        repeat' (first | refine a_mov ?_ | refine a_asg ?_ | refine a_binN ?_ | refine a_notd ?_ | refine a_notb ?_ | refine a_nilc ?_ | refine a_fa ?_ | refine a_ext ?_ | refine a_lenv ?_ | refine a_lens ?_ | refine a_pick_t ?_ | refine a_pick_f ?_ | refine a_not ?_ | refine a_nilf ?_ | (refine a_bin ?_ ?_ <;> intro _ <;> try (exfalso; omega)) | refine a_ld hl ?_ | (refine a_st hl ?_; clear hl; intro _ hl) | refine a_ix (fun _ => ?_) | fail)
        refine o_nil (hK2 _ _ ?_)
        refine wk_ret (retQ_tmp1 Tryz.results4 (by decide) rfl (by conv => lhs; whnf) ?_)
        exact ⟨rfl, hup _ hx4⟩
      · have hno : ¬ (E.day ≤ later ∧ E.known ≤ more) := fun h => hgo ⟨rfl, h⟩
        repeat' (first | refine a_mov ?_ | refine a_asg ?_ | refine a_binN ?_ | refine a_notd ?_ | refine a_notb ?_ | refine a_nilc ?_ | refine a_fa ?_ | refine a_ext ?_ | refine a_lenv ?_ | refine a_lens ?_ | refine a_pick_t ?_ | refine a_pick_f ?_ | refine a_not ?_ | refine a_nilf ?_ | (refine a_bin ?_ ?_ <;> intro _ <;> try (exfalso; omega)) | refine a_ld hl ?_ | (refine a_st hl ?_; clear hl; intro _ hl) | refine a_ix (fun _ => ?_) | fail)
        all_goals
          refine o_nil (hK2 _ _ ?_)
          clear hK2 K2
          refine wk_cond_t rfl ?_
          refine wk_seq fun K2 hK2 => ?_
          refine wk_reg ?_
          repeat' (first | refine a_mov ?_ | refine a_asg ?_ | refine a_binN ?_ | refine a_notd ?_ | refine a_notb ?_ | refine a_nilc ?_ | refine a_fa ?_ | refine a_ext ?_ | refine a_lenv ?_ | refine a_lens ?_ | refine a_pick_t ?_ | refine a_pick_f ?_ | refine a_not ?_ | refine a_nilf ?_ | (refine a_bin ?_ ?_ <;> intro _ <;> try (exfalso; omega)) | refine a_ld hl ?_ | (refine a_st hl ?_; clear hl; intro _ hl) | refine a_ix (fun _ => ?_) | fail)
          refine o_nil (hK2 _ _ ?_)
          refine wk_ret (retQ_tmp1 Tryz.results4 (by decide) rfl (by conv => lhs; whnf) ?_)
          exact ⟨rfl, hup _ hx4⟩
    · obtain ⟨rfl, hd, hkn⟩ := hgo
      obtain ⟨hn1, hn2⟩ := hfew rfl
      repeat' (first | refine a_mov ?_ | refine a_asg ?_ | refine a_binN ?_ | refine a_notd ?_ | refine a_notb ?_ | refine a_nilc ?_ | refine a_fa ?_ | refine a_ext ?_ | refine a_lenv ?_ | refine a_lens ?_ | refine a_pick_t ?_ | refine a_pick_f ?_ | refine a_not ?_ | refine a_nilf ?_ | (refine a_bin ?_ ?_ <;> intro _ <;> try (exfalso; omega)) | refine a_ld hl ?_ | (refine a_st hl ?_; clear hl; intro _ hl) | refine a_ix (fun _ => ?_) | fail)
      refine a_all (hr9.ext hx4) ?_
      repeat' (first | refine a_mov ?_ | refine a_asg ?_ | refine a_binN ?_ | refine a_notd ?_ | refine a_notb ?_ | refine a_nilc ?_ | refine a_fa ?_ | refine a_ext ?_ | refine a_lenv ?_ | refine a_lens ?_ | refine a_pick_t ?_ | refine a_pick_f ?_ | refine a_not ?_ | refine a_nilf ?_ | (refine a_bin ?_ ?_ <;> intro _ <;> try (exfalso; omega)) | refine a_ld hl ?_ | (refine a_st hl ?_; clear hl; intro _ hl) | refine a_ix (fun _ => ?_) | fail)
      refine a_fn (holds_calls (E := E) ((hk.ext hx3').ext hx4) hfit ((hH.1.ext hx3').ext hx4) ((hL.1.ext hx3').ext hx4) (by omega) (by omega)) ?_
      rintro _ w5 ⟨rfl, hx5⟩
      cases hh : holds E s
      · repeat' (first | refine a_mov ?_ | refine a_asg ?_ | refine a_binN ?_ | refine a_notd ?_ | refine a_notb ?_ | refine a_nilc ?_ | refine a_fa ?_ | refine a_ext ?_ | refine a_lenv ?_ | refine a_lens ?_ | refine a_pick_t ?_ | refine a_pick_f ?_ | refine a_not ?_ | refine a_nilf ?_ | (refine a_bin ?_ ?_ <;> intro _ <;> try (exfalso; omega)) | refine a_ld hl ?_ | (refine a_st hl ?_; clear hl; intro _ hl) | refine a_ix (fun _ => ?_) | fail)
        refine o_nil (hK2 _ _ ?_)
        clear hK2 K2
        refine wk_cond_t rfl ?_
        refine wk_seq fun K2 hK2 => ?_
        refine wk_reg ?_
        repeat' (first | refine a_mov ?_ | refine a_asg ?_ | refine a_binN ?_ | refine a_notd ?_ | refine a_notb ?_ | refine a_nilc ?_ | refine a_fa ?_ | refine a_ext ?_ | refine a_lenv ?_ | refine a_lens ?_ | refine a_pick_t ?_ | refine a_pick_f ?_ | refine a_not ?_ | refine a_nilf ?_ | (refine a_bin ?_ ?_ <;> intro _ <;> try (exfalso; omega)) | refine a_ld hl ?_ | (refine a_st hl ?_; clear hl; intro _ hl) | refine a_ix (fun _ => ?_) | fail)
        refine o_nil (hK2 _ _ ?_)
        refine wk_ret (retQ_tmp1 Tryz.results4 (by decide) rfl (by conv => lhs; whnf) ?_)
        exact ⟨rfl, hup _ (hx4.trans hx5)⟩
      · repeat' (first | refine a_mov ?_ | refine a_asg ?_ | refine a_binN ?_ | refine a_notd ?_ | refine a_notb ?_ | refine a_nilc ?_ | refine a_fa ?_ | refine a_ext ?_ | refine a_lenv ?_ | refine a_lens ?_ | refine a_pick_t ?_ | refine a_pick_f ?_ | refine a_not ?_ | refine a_nilf ?_ | (refine a_bin ?_ ?_ <;> intro _ <;> try (exfalso; omega)) | refine a_ld hl ?_ | (refine a_st hl ?_; clear hl; intro _ hl) | refine a_ix (fun _ => ?_) | fail)
        refine o_nil (hK2 _ _ ?_)
        clear hK2 K2
        refine wk_cond_f rfl ?_
        exact wk_skip ⟨(), ⟨rfl, rfl, rfl, rfl, rfl, rfl, rfl, rfl, rfl, rfl, trivial⟩, rfl, ⟨hn1, hn2, hd, hkn, hh⟩, hx4.trans hx5⟩
  rintro _ t w4 ⟨⟨hn1, hn2, hd, hkn, hh⟩, hx34⟩
  refine hK _ _ ?_
  clear hK K
  have hx4 := hx3'.trans hx34
  replace hr9 := hr9.ext hx34
  replace hr16 := hr16.ext hx34
  have hkw := hk.ext hx4
  have hHw := hH.1.ext hx4
  have hLw := hL.1.ext hx4
  have hrng := hL.2.2
  clear hx3' hx34 ht hH hL hk
  have hLat : ∀ (j : Nat) (hj : j < E.l.length), ∃ b o, la = some ⟨b, o, none⟩ ∧ Row w4 b (o + j * 4) (stuL E.l[j]) := fun j hj => by
    obtain ⟨b, o, rfl, hr⟩ := hLw.at (flat_length stuL_len E.l) (by omega) (by omega)
    exact ⟨b, o, rfl, hr.elem stuL_len (k := j) (t := E.l[j]) (by simp [hj])⟩
  refine wk_seq fun K hK => ?_
  refine wk_reg ?_
  refine a_asg ?_
  refine o_nil (hK _ _ ?_)
  clear hK K
  refine wk_seq fun K hK => ?_
  refine wk_seq fun K2 hK2 => ?_
  refine wk_reg ?_
  refine a_asg ?_
  refine o_nil (hK2 _ _ ?_)
  clear hK2 K2
  refine wk_block ?_
  refine wk_loopH [] rfl (fun q : Nat × Value × List (Nat × Obj) => [(1, .int .i64 E.day), (2, .int .i64 later), (3, .slice ha E.h.length hc), (4, .int .i64 E.known), (5, .int .i64 more), (6, .slice la E.l.length lc), (8, .int .u8 (by_ : Int)), (9, .pointer (some ⟨b9, 0, none⟩)), (16, .pointer (some ⟨b16, 0, none⟩)), (19, .bool true), (20, q.2.1), (21, .int .i64 (q.1 : Int))]) (fun q w' => q.1 ≤ E.l.length ∧ LH w4 (fun _ => False) w' q.2.2 ∧ Acc q.2.1 4 41 q.1 (((E.l.take q.1).map (earlyS (by_ : Int))).flatMap stuL) q.2.2) (fun q => E.l.length - q.1) (0, .slice none 0 0, []) ⟨rfl, rfl, rfl, rfl, rfl, rfl, rfl, rfl, rfl, rfl, rfl, rfl, trivial⟩ ⟨Nat.zero_le _, LH.start w4 _, Acc.nil _ _⟩ ?_
  rintro ⟨j, v, acc⟩ t w5 ⟨hj, hl, hacc⟩
  simp only at hj hl hacc
  refine wk_seq fun K1 hK1 => ?_
  refine wk_seq fun K2 hK2 => ?_
  refine wk_reg ?_
  by_cases hj1 : j < E.l.length
  · obtain ⟨lb, lo, rfl, hrl0⟩ := hLat j hj1
    have hrl := hrl0.ext hl.done
    have htk := List.take_succ_eq_append_getElem hj1
    have hry := hrng E.l[j] (List.getElem_mem hj1)
    generalize E.l[j] = y at hrl hrl0 htk hry
    repeat' (first | refine a_mov ?_ | refine a_asg ?_ | refine a_binN ?_ | refine a_notd ?_ | refine a_notb ?_ | refine a_nilc ?_ | refine a_fa ?_ | refine a_ext ?_ | refine a_lenv ?_ | refine a_lens ?_ | refine a_pick_t ?_ | refine a_pick_f ?_ | refine a_not ?_ | refine a_nilf ?_ | (refine a_bin ?_ ?_ <;> intro _ <;> try (exfalso; omega)) | refine a_ld hl ?_ | (refine a_st hl ?_; clear hl; intro _ hl) | refine a_ix (fun _ => ?_) | fail)
    refine o_nil (hK2 _ _ ?_)
    clear hK2 K2
    refine wk_cond_t rfl ?_
    refine wk_skip (hK1 _ _ ?_)
    clear hK1 K1
    refine wk_seq fun K1 hK1 => ?_
    refine wk_block ?_
    refine wk_seq fun K2 hK2 => ?_
    refine wk_reg ?_
    refine a_mov ?_
    refine a_mov ?_
    refine a_idx (c := 4) j rfl ?_
    refine a_all hrl ?_
    refine o_alloc hl [.string "".toByteArray, .int .i64 0, .int .i64 0, .int .i64 0] (by kernel_rfl) rfl ?_
    clear hl
    intro b22 w6 hb22 hl
    refine o_putN (us := stuL y) hl rfl rfl rfl (stuL_one2 y) rfl (.here rfl rfl) ?_
    clear hl
    intro w7 hl
    have hl : LH w4 (fun _ => False) w7 ((b22, Obj.cells #[str y.id, .int .i64 y.begin_, .int .i64 y.end_, .int .i64 y.again] 41 (0, 0)) :: acc) := hl
    refine o_nil (hK2 _ _ ?_)
    clear hK2 K2
    refine wk_seq fun K2 hK2 => ?_
    refine wk_cut [] (fun _ : Unit => [(1, .int .i64 E.day), (2, .int .i64 later), (3, .slice ha E.h.length hc), (4, .int .i64 E.known), (5, .int .i64 more), (6, .slice (some ⟨lb, lo, none⟩) E.l.length lc), (8, .int .u8 (by_ : Int)), (9, .pointer (some ⟨b9, 0, none⟩)), (16, .pointer (some ⟨b16, 0, none⟩)), (19, .bool true), (20, v), (21, .int .i64 (j : Int)), (22, .pointer (some ⟨b22, 0, none⟩))]) (fun _ w' => LH w4 (fun _ => False) w' ((b22, Obj.cells #[str y.id, .int .i64 (earlier (by_ : Int) y.begin_), .int .i64 y.end_, .int .i64 y.again] 41 (0, 0)) :: acc)) ?_ ?_
    · refine wk_seq fun K3 hK3 => ?_
      refine wk_reg ?_
      obtain ⟨hr1, hr2⟩ := hry.1
      by_cases hz : 0 ≤ y.begin_
      · have he : earlier (by_ : Int) y.begin_ = max 0 (y.begin_ - (by_ : Int)) := if_pos hz
        repeat' (first | refine a_mov ?_ | refine a_asg ?_ | refine a_binN ?_ | refine a_notd ?_ | refine a_notb ?_ | refine a_nilc ?_ | refine a_fa ?_ | refine a_ext ?_ | refine a_lenv ?_ | refine a_lens ?_ | refine a_pick_t ?_ | refine a_pick_f ?_ | refine a_not ?_ | refine a_nilf ?_ | (refine a_bin ?_ ?_ <;> intro _ <;> try (exfalso; omega)) | refine a_ld hl ?_ | (refine a_st hl ?_; clear hl; intro _ hl) | refine a_ix (fun _ => ?_) | fail)
        refine o_nil (hK3 _ _ ?_)
        clear hK3 K3
        refine wk_cond_t rfl ?_
        refine wk_reg ?_
        refine a_fa ?_
        refine a_ld hl ?_
        refine a_mov ?_
        refine a_cvI ?_ (wrap64 hby)
        refine a_binN ?_
        refine o_max rfl rfl rfl ?_
        refine a_fa ?_
        refine a_st hl ?_
        clear hl
        intro w9 hl
        exact o_nil ⟨(), ⟨rfl, rfl, rfl, rfl, rfl, rfl, rfl, rfl, rfl, rfl, rfl, rfl, rfl, trivial⟩, rfl, by rw [he]; exact hl⟩
      · have he : earlier (by_ : Int) y.begin_ = y.begin_ := if_neg hz
        repeat' (first | refine a_mov ?_ | refine a_asg ?_ | refine a_binN ?_ | refine a_notd ?_ | refine a_notb ?_ | refine a_nilc ?_ | refine a_fa ?_ | refine a_ext ?_ | refine a_lenv ?_ | refine a_lens ?_ | refine a_pick_t ?_ | refine a_pick_f ?_ | refine a_not ?_ | refine a_nilf ?_ | (refine a_bin ?_ ?_ <;> intro _ <;> try (exfalso; omega)) | refine a_ld hl ?_ | (refine a_st hl ?_; clear hl; intro _ hl) | refine a_ix (fun _ => ?_) | fail)
        refine o_nil (hK3 _ _ ?_)
        clear hK3 K3
        refine wk_cond_f rfl ?_
        exact wk_skip ⟨(), ⟨rfl, rfl, rfl, rfl, rfl, rfl, rfl, rfl, rfl, rfl, rfl, rfl, rfl, trivial⟩, rfl, by rw [he]; exact hl⟩
    clear hl
    rintro _ t w8 hl
    refine hK2 _ _ ?_
    clear hK2 K2
    refine wk_seq fun K2 hK2 => ?_
    refine wk_cut [] (fun _ : Unit => [(1, .int .i64 E.day), (2, .int .i64 later), (3, .slice ha E.h.length hc), (4, .int .i64 E.known), (5, .int .i64 more), (6, .slice (some ⟨lb, lo, none⟩) E.l.length lc), (8, .int .u8 (by_ : Int)), (9, .pointer (some ⟨b9, 0, none⟩)), (16, .pointer (some ⟨b16, 0, none⟩)), (19, .bool true), (20, v), (21, .int .i64 (j : Int)), (22, .pointer (some ⟨b22, 0, none⟩))]) (fun _ w' => LH w4 (fun _ => False) w' ((b22, Obj.cells #[str y.id, .int .i64 (earlier (by_ : Int) y.begin_), .int .i64 (earlier (by_ : Int) y.end_), .int .i64 y.again] 41 (0, 0)) :: acc)) ?_ ?_
    · refine wk_seq fun K3 hK3 => ?_
      refine wk_reg ?_
      obtain ⟨hr1, hr2⟩ := hry.2
      by_cases hz : 0 ≤ y.end_
      · have he : earlier (by_ : Int) y.end_ = max 0 (y.end_ - (by_ : Int)) := if_pos hz
        repeat' (first | refine a_mov ?_ | refine a_asg ?_ | refine a_binN ?_ | refine a_notd ?_ | refine a_notb ?_ | refine a_nilc ?_ | refine a_fa ?_ | refine a_ext ?_ | refine a_lenv ?_ | refine a_lens ?_ | refine a_pick_t ?_ | refine a_pick_f ?_ | refine a_not ?_ | refine a_nilf ?_ | (refine a_bin ?_ ?_ <;> intro _ <;> try (exfalso; omega)) | refine a_ld hl ?_ | (refine a_st hl ?_; clear hl; intro _ hl) | refine a_ix (fun _ => ?_) | fail)
        refine o_nil (hK3 _ _ ?_)
        clear hK3 K3
        refine wk_cond_t rfl ?_
        refine wk_reg ?_
        refine a_fa ?_
        refine a_ld hl ?_
        refine a_mov ?_
        refine a_cvI ?_ (wrap64 hby)
        refine a_binN ?_
        refine o_max rfl rfl rfl ?_
        refine a_fa ?_
        refine a_st hl ?_
        clear hl
        intro w9 hl
        exact o_nil ⟨(), ⟨rfl, rfl, rfl, rfl, rfl, rfl, rfl, rfl, rfl, rfl, rfl, rfl, rfl, trivial⟩, rfl, by rw [he]; exact hl⟩
      · have he : earlier (by_ : Int) y.end_ = y.end_ := if_neg hz
        repeat' (first | refine a_mov ?_ | refine a_asg ?_ | refine a_binN ?_ | refine a_notd ?_ | refine a_notb ?_ | refine a_nilc ?_ | refine a_fa ?_ | refine a_ext ?_ | refine a_lenv ?_ | refine a_lens ?_ | refine a_pick_t ?_ | refine a_pick_f ?_ | refine a_not ?_ | refine a_nilf ?_ | (refine a_bin ?_ ?_ <;> intro _ <;> try (exfalso; omega)) | refine a_ld hl ?_ | (refine a_st hl ?_; clear hl; intro _ hl) | refine a_ix (fun _ => ?_) | fail)
        refine o_nil (hK3 _ _ ?_)
        clear hK3 K3
        refine wk_cond_f rfl ?_
        exact wk_skip ⟨(), ⟨rfl, rfl, rfl, rfl, rfl, rfl, rfl, rfl, rfl, rfl, rfl, rfl, rfl, trivial⟩, rfl, by rw [he]; exact hl⟩
    clear hl
    rintro _ t w8 hl
    refine hK2 _ _ ?_
    clear hK2 K2
    refine wk_reg ?_
    refine a_mov ?_
    refine a_all (hl.rowL (vs := stuL (earlyS (by_ : Int) y)) 0 0 4 rfl) ?_
    refine o_buildSlice hl (stuL (earlyS (by_ : Int) y)) rfl rfl (by kernel_rfl) ?_
    clear hl
    intro bq w9 hbq hl
    refine o_append (us := stuL (earlyS (by_ : Int) y)) (bl' := [(bq, _), (b22, _)]) (bytes := 40) (q := 1) hl hacc (hl.rowL (vs := stuL (earlyS (by_ : Int) y)) 0 0 4 rfl) rfl (stuL_one2 _) (by decide) (by omega) (by omega) rfl rfl (by kernel_rfl) rfl rfl ?_
    clear hl
    intro v' w10 acc' hl hacc'
    refine a_asg ?_
    refine o_nil (hK1 _ _ ?_)
    clear hK1 K1
    refine wk_reg ?_
    repeat' (first | refine a_mov ?_ | refine a_asg ?_ | refine a_binN ?_ | refine a_notd ?_ | refine a_notb ?_ | refine a_nilc ?_ | refine a_fa ?_ | refine a_ext ?_ | refine a_lenv ?_ | refine a_lens ?_ | refine a_pick_t ?_ | refine a_pick_f ?_ | refine a_not ?_ | refine a_nilf ?_ | (refine a_bin ?_ ?_ <;> intro _ <;> try (exfalso; omega)) | refine a_ld hl ?_ | (refine a_st hl ?_; clear hl; intro _ hl) | refine a_ix (fun _ => ?_) | fail)
    refine o_nil ⟨(j + 1, v', acc'), ⟨rfl, rfl, rfl, rfl, rfl, rfl, rfl, rfl, rfl, rfl, rfl, rfl, trivial⟩, rfl, ⟨hj1, hl.sub ((List.sublist_cons_self _ _).trans (List.sublist_cons_self _ _)), ?_⟩, by simp only; omega⟩
    simp only
    rw [htk, List.map_append, List.flatMap_append]
    simpa [stuL_len] using hacc'
  · obtain rfl : j = E.l.length := by omega
    rw [List.take_length] at hacc
    repeat' (first | refine a_mov ?_ | refine a_asg ?_ | refine a_binN ?_ | refine a_notd ?_ | refine a_notb ?_ | refine a_nilc ?_ | refine a_fa ?_ | refine a_ext ?_ | refine a_lenv ?_ | refine a_lens ?_ | refine a_pick_t ?_ | refine a_pick_f ?_ | refine a_not ?_ | refine a_nilf ?_ | (refine a_bin ?_ ?_ <;> intro _ <;> try (exfalso; omega)) | refine a_ld hl ?_ | (refine a_st hl ?_; clear hl; intro _ hl) | refine a_ix (fun _ => ?_) | fail)
    refine o_nil (hK2 _ _ ?_)
    clear hK2 K2
    refine wk_cond_f rfl ?_
    refine wk_exit ?_
    refine blockK_same ?_
    refine hK _ _ ?_
    clear hK1 K1
    clear hK K
    have hx5 := hl.done
    have hEs : Sl w5 v 4 ((E.l.map (earlyS (by_ : Int))).flatMap stuL) := LH.acc_sl (l := []) hl hacc
    obtain ⟨va, vc, rfl⟩ := hacc.shape
    have hxx := hx4.trans hx5
    replace hr9 := hr9.ext hx5
    replace hr16 := hr16.ext hx5
    replace hkw := hkw.ext hx5
    replace hHw := hHw.ext hx5
    replace hLw := hLw.ext hx5
    clear hl hacc hLat hx5 hx4
    have hm1 := holds_mono (le_later hd) hh
    have hm2 := holds_mono (le_known hkn) hh
    have hm3 := holds_mono (le_more (x := x)) hh
    have hm4 := holds_mono (le_early (E := E) (b := (by_ : Int)) (by omega)) hh
    have hc1 : ∀ w_, Ext w5 w_ → Calls Tryz.prog 14 #[.agg (snL s (.slice ka s.kids.length kc)).toArray, .int .i64 later, .slice ha E.h.length hc, .int .i64 E.known, .slice la E.l.length lc] w_ (fun e w' => ∃ v, e = .returned v ∧ v = .bool true ∧ Ext w_ w') := fun w_ hx => by
      rw [← hm1]
      exact holds_calls (E := { E with day := later }) (hkw.ext hx) hfit (hHw.ext hx) (hLw.ext hx) (by simp only; omega) (by simp only; omega)
    have hc2 : ∀ w_, Ext w5 w_ → Calls Tryz.prog 14 #[.agg (snL s (.slice ka s.kids.length kc)).toArray, .int .i64 E.day, .slice ha E.h.length hc, .int .i64 more, .slice la E.l.length lc] w_ (fun e w' => ∃ v, e = .returned v ∧ v = .bool true ∧ Ext w_ w') := fun w_ hx => by
      rw [← hm2]
      exact holds_calls (E := { E with known := more }) (hkw.ext hx) hfit (hHw.ext hx) (hLw.ext hx) (by simp only; omega) (by simp only; omega)
    refine wk_seq fun K hK => ?_
    refine wk_treeX [0, 1, 2, 3, 4, 5, 6, 7, 8, 9, 10, 11, 12, 13, 14, 15, 16, 17, 18, 19, 21, 23, 26, 27] [18, 23] [20, 22, 24, 25] [28, 29, 30, 31, 32, 33, 34, 35, 36, 37, 38] (fun w' => Ext w5 w') (fun w' => Row w' b9 0 (snL s (.slice ka s.kids.length kc)) ∧ Row w' b16 0 (hapL x)) rfl (by kernel_rfl) (fun _ _ _ _ h => by first | exact h | (simp only [BlockK, NoGoto, RetQ] at h)) (fun _ h => Upd.of_heap h) (fun w' h => ⟨hr9.ext h, hr16.ext h⟩) (fun _ _ h e => ⟨h.1.ext e, h.2.ext e⟩) ?_
    repeat' (first | refine q_mov ?_ | refine q_asg ?_ | refine q_fa ?_ | refine q_ext ?_ | refine q_binN ?_ | refine q_notd ?_ | refine q_notb ?_ | refine q_pick_t ?_ | refine q_pick_f ?_ | refine q_nilc ?_ | refine q_skip ?_ | refine q_lens ?_ | refine q_lenv ?_ | refine q_nil ?_ | refine q_ix (fun _ => ?_) | (refine q_bin ?_ ?_ <;> intro _ <;> try (exfalso; omega)) | refine q_all (fun w_ hw_ => hr9.ext hw_) ?_ | refine q_late rfl rfl rfl rfl (fun w' hw' => r_loadN (vs := snL s (.slice ka s.kids.length kc)) rfl rfl rfl hw'.1) ?_ | refine q_late rfl rfl rfl rfl (fun w' hw' => r_loadN (vs := hapL x) rfl rfl rfl hw'.2) ?_ | refine q_fn (fun w_ hw_ => hc1 w_ hw_) ?_ | refine q_fn (fun w_ hw_ => hc2 w_ hw_) ?_ | fail)
    intro w6 hx6
    have hlh := LH.start w6 (fun _ => False)
    have hone : (E.h.flatMap hapL).all Value.oneCell' = true := by
      rw [List.all_flatMap, List.all_eq_true]
      exact fun y _ => hapL_one y
    refine opsT_2 (i := 20) (i' := 24) (by kernel_rfl) rfl rfl rfl rfl ?_ ?_
    · refine o_buildSlice0 hlh rfl rfl rfl ?_
      clear hlh
      intro b0 wa hb0 hlh
      refine o_nil ⟨.inl ⟨hr9.ext (hx6.trans hlh.done), hr16.ext (hx6.trans hlh.done)⟩, ?_⟩
      refine opsT_2 (i := 22) (i' := 24) (by kernel_rfl) rfl rfl rfl rfl ?_ ?_
      · have hlh : LH _ _ _ ([] ++ [_]) := hlh
        refine o_appendS (k := 4) (bytes := 40) (q := E.h.length) (us := E.h.flatMap hapL) hlh (Acc.empty 4 38 b0) ((hHw.ext hx6).ext hlh.done) (flat_length hapL_len E.h) (by decide) hone (by omega) (by omega) rfl rfl rfl rfl rfl rfl ?_
        clear hlh
        intro v1 wb acc hlh hacc
        rw [Nat.zero_add, List.nil_append] at hacc
        obtain ⟨x1, y1, rfl⟩ := hacc.shape
        refine o_nil ⟨.inl ⟨hr9.ext (hx6.trans hlh.done), hr16.ext (hx6.trans hlh.done)⟩, ?_⟩
        refine opsT_1 (i := 24) (by kernel_rfl) rfl rfl ?_
        refine o_buildSlice hlh (hapL x) rfl rfl (by kernel_rfl) ?_
        clear hlh
        intro b4 wc hb4 hlh
        refine o_nil ⟨.inl ⟨hr9.ext (hx6.trans hlh.done), hr16.ext (hx6.trans hlh.done)⟩, ?_⟩
        have hlh : LH _ _ _ ([_] ++ acc) := hlh
        refine opsT_1 (i := 25) (by kernel_rfl) rfl rfl ?_
        refine o_append (k := 4) (bytes := 40) (m := E.h.length) (q := 1) (us := hapL x) hlh hacc (hlh.rowL (vs := hapL x) 0 0 4 rfl) rfl (hapL_one x) (by omega) (by omega) (by omega) rfl rfl rfl rfl rfl ?_
        clear hlh hacc
        intro v2 wd acc2 hlh hacc
        have hE3 : Sl wd v2 4 ((E.h ++ [x]).flatMap hapL) := by
          rw [List.flatMap_append, List.flatMap_singleton]
          exact LH.acc_sl hlh hacc
        obtain ⟨x2, y2, rfl⟩ := hacc.shape
        have hx7 := hx6.trans hlh.done
        refine o_nil ⟨.inl ⟨hr9.ext hx7, hr16.ext hx7⟩, ?_⟩
        clear hlh hacc
        refine opsT_nil ?_
        unfold PostX
        have hc3 : ∀ w_, Ext wd w_ → Calls Tryz.prog 14 #[.agg (snL s (.slice ka s.kids.length kc)).toArray, .int .i64 E.day, .slice x2 (E.h.length + 1) y2, .int .i64 E.known, .slice la E.l.length lc] w_ (fun e w' => ∃ v, e = .returned v ∧ v = .bool true ∧ Ext w_ w') := fun w_ hx => by
          rw [← hm3]
          exact holds_calls (E := { E with h := E.h ++ [x] }) ((hkw.ext hx7).ext hx) hfit (hE3.ext hx) ((hLw.ext hx7).ext hx) (by simp only [List.length_append, List.length_singleton]; omega) (by simp only; omega)
        have hc4 : ∀ w_, Ext wd w_ → Calls Tryz.prog 14 #[.agg (snL s (.slice ka s.kids.length kc)).toArray, .int .i64 E.day, .slice ha E.h.length hc, .int .i64 E.known, .slice va E.l.length vc] w_ (fun e w' => ∃ v, e = .returned v ∧ v = .bool true ∧ Ext w_ w') := fun w_ hx => by
          rw [← hm4]
          exact holds_calls (E := { E with l := E.l.map (earlyS (by_ : Int)) }) ((hkw.ext hx7).ext hx) hfit ((hHw.ext hx7).ext hx) ((hEs.ext hx7).ext hx) (by simp only; omega) (by simp only [List.length_map]; omega)
        repeat' (first | refine x_mov ?_ | refine x_asg ?_ | refine x_fa ?_ | refine x_ext ?_ | refine x_binN ?_ | refine x_notd ?_ | refine x_notb ?_ | refine x_pick_t ?_ | refine x_pick_f ?_ | refine x_nilc ?_ | refine x_skip ?_ | refine x_lens ?_ | refine x_lenv ?_ | refine x_ix (fun _ => ?_) | (refine x_bin ?_ ?_ <;> intro _ <;> try (exfalso; omega)) | refine x_fn (fun w_ hw_ => hc3 w_ hw_) ?_ | refine x_fn (fun w_ hw_ => hc4 w_ hw_) ?_ | refine x_all (fun w_ hw_ => (hr9.ext hx7).ext hw_) ?_ | fail)
        refine x_nil ?_
        intro w8 hx8
        refine hK _ _ ?_
        clear hK K
        refine wk_ret (retQ_tmp1 Tryz.results4 (by decide) rfl (by conv => lhs; whnf) ?_)
        exact ⟨rfl, (hxx.trans (hx7.trans hx8))⟩
      · skip
        refine o_buildSlice hlh (hapL x) rfl rfl (by kernel_rfl) ?_
        clear hlh
        intro b4 wc hb4 hlh
        refine o_nil ⟨.inl ⟨hr9.ext (hx6.trans hlh.done), hr16.ext (hx6.trans hlh.done)⟩, ?_⟩
        have hlh : LH _ _ _ ([_] ++ [_]) := hlh
        refine opsT_1 (i := 22) (by kernel_rfl) rfl rfl ?_
        refine o_appendS (k := 4) (bytes := 40) (q := E.h.length) (us := E.h.flatMap hapL) hlh (Acc.empty 4 38 b0) ((hHw.ext hx6).ext hlh.done) (flat_length hapL_len E.h) (by decide) hone (by omega) (by omega) rfl rfl rfl rfl rfl rfl ?_
        clear hlh
        intro v1 wb acc hlh hacc
        rw [Nat.zero_add, List.nil_append] at hacc
        obtain ⟨x1, y1, rfl⟩ := hacc.shape
        refine o_nil ⟨.inl ⟨hr9.ext (hx6.trans hlh.done), hr16.ext (hx6.trans hlh.done)⟩, ?_⟩
        refine opsT_1 (i := 25) (by kernel_rfl) rfl rfl ?_
        refine o_append (k := 4) (bytes := 40) (m := E.h.length) (q := 1) (us := hapL x) hlh hacc (hlh.rowL (vs := hapL x) 0 0 4 rfl) rfl (hapL_one x) (by omega) (by omega) (by omega) rfl rfl rfl rfl rfl ?_
        clear hlh hacc
        intro v2 wd acc2 hlh hacc
        have hE3 : Sl wd v2 4 ((E.h ++ [x]).flatMap hapL) := by
          rw [List.flatMap_append, List.flatMap_singleton]
          exact LH.acc_sl hlh hacc
        obtain ⟨x2, y2, rfl⟩ := hacc.shape
        have hx7 := hx6.trans hlh.done
        refine o_nil ⟨.inl ⟨hr9.ext hx7, hr16.ext hx7⟩, ?_⟩
        clear hlh hacc
        refine opsT_nil ?_
        unfold PostX
        have hc3 : ∀ w_, Ext wd w_ → Calls Tryz.prog 14 #[.agg (snL s (.slice ka s.kids.length kc)).toArray, .int .i64 E.day, .slice x2 (E.h.length + 1) y2, .int .i64 E.known, .slice la E.l.length lc] w_ (fun e w' => ∃ v, e = .returned v ∧ v = .bool true ∧ Ext w_ w') := fun w_ hx => by
          rw [← hm3]
          exact holds_calls (E := { E with h := E.h ++ [x] }) ((hkw.ext hx7).ext hx) hfit (hE3.ext hx) ((hLw.ext hx7).ext hx) (by simp only [List.length_append, List.length_singleton]; omega) (by simp only; omega)
        have hc4 : ∀ w_, Ext wd w_ → Calls Tryz.prog 14 #[.agg (snL s (.slice ka s.kids.length kc)).toArray, .int .i64 E.day, .slice ha E.h.length hc, .int .i64 E.known, .slice va E.l.length vc] w_ (fun e w' => ∃ v, e = .returned v ∧ v = .bool true ∧ Ext w_ w') := fun w_ hx => by
          rw [← hm4]
          exact holds_calls (E := { E with l := E.l.map (earlyS (by_ : Int)) }) ((hkw.ext hx7).ext hx) hfit ((hHw.ext hx7).ext hx) ((hEs.ext hx7).ext hx) (by simp only; omega) (by simp only [List.length_map]; omega)
        repeat' (first | refine x_mov ?_ | refine x_asg ?_ | refine x_fa ?_ | refine x_ext ?_ | refine x_binN ?_ | refine x_notd ?_ | refine x_notb ?_ | refine x_pick_t ?_ | refine x_pick_f ?_ | refine x_nilc ?_ | refine x_skip ?_ | refine x_lens ?_ | refine x_lenv ?_ | refine x_ix (fun _ => ?_) | (refine x_bin ?_ ?_ <;> intro _ <;> try (exfalso; omega)) | refine x_fn (fun w_ hw_ => hc3 w_ hw_) ?_ | refine x_fn (fun w_ hw_ => hc4 w_ hw_) ?_ | refine x_all (fun w_ hw_ => (hr9.ext hx7).ext hw_) ?_ | fail)
        refine x_nil ?_
        intro w8 hx8
        refine hK _ _ ?_
        clear hK K
        refine wk_ret (retQ_tmp1 Tryz.results4 (by decide) rfl (by conv => lhs; whnf) ?_)
        exact ⟨rfl, (hxx.trans (hx7.trans hx8))⟩
    · skip
      refine o_buildSlice hlh (hapL x) rfl rfl (by kernel_rfl) ?_
      clear hlh
      intro b4 wc hb4 hlh
      refine o_nil ⟨.inl ⟨hr9.ext (hx6.trans hlh.done), hr16.ext (hx6.trans hlh.done)⟩, ?_⟩
      refine opsT_1 (i := 20) (by kernel_rfl) rfl rfl ?_
      refine o_buildSlice0 hlh rfl rfl rfl ?_
      clear hlh
      intro b0 wa hb0 hlh
      refine o_nil ⟨.inl ⟨hr9.ext (hx6.trans hlh.done), hr16.ext (hx6.trans hlh.done)⟩, ?_⟩
      replace hlh := hlh.perm (List.Perm.swap _ _ _)
      have hlh : LH _ _ _ ([_] ++ [_]) := hlh
      refine opsT_1 (i := 22) (by kernel_rfl) rfl rfl ?_
      refine o_appendS (k := 4) (bytes := 40) (q := E.h.length) (us := E.h.flatMap hapL) hlh (Acc.empty 4 38 b0) ((hHw.ext hx6).ext hlh.done) (flat_length hapL_len E.h) (by decide) hone (by omega) (by omega) rfl rfl rfl rfl rfl rfl ?_
      clear hlh
      intro v1 wb acc hlh hacc
      rw [Nat.zero_add, List.nil_append] at hacc
      obtain ⟨x1, y1, rfl⟩ := hacc.shape
      refine o_nil ⟨.inl ⟨hr9.ext (hx6.trans hlh.done), hr16.ext (hx6.trans hlh.done)⟩, ?_⟩
      refine opsT_1 (i := 25) (by kernel_rfl) rfl rfl ?_
      refine o_append (k := 4) (bytes := 40) (m := E.h.length) (q := 1) (us := hapL x) hlh hacc (hlh.rowL (vs := hapL x) 0 0 4 rfl) rfl (hapL_one x) (by omega) (by omega) (by omega) rfl rfl rfl rfl rfl ?_
      clear hlh hacc
      intro v2 wd acc2 hlh hacc
      have hE3 : Sl wd v2 4 ((E.h ++ [x]).flatMap hapL) := by
        rw [List.flatMap_append, List.flatMap_singleton]
        exact LH.acc_sl hlh hacc
      obtain ⟨x2, y2, rfl⟩ := hacc.shape
      have hx7 := hx6.trans hlh.done
      refine o_nil ⟨.inl ⟨hr9.ext hx7, hr16.ext hx7⟩, ?_⟩
      clear hlh hacc
      refine opsT_nil ?_
      unfold PostX
      have hc3 : ∀ w_, Ext wd w_ → Calls Tryz.prog 14 #[.agg (snL s (.slice ka s.kids.length kc)).toArray, .int .i64 E.day, .slice x2 (E.h.length + 1) y2, .int .i64 E.known, .slice la E.l.length lc] w_ (fun e w' => ∃ v, e = .returned v ∧ v = .bool true ∧ Ext w_ w') := fun w_ hx => by
        rw [← hm3]
        exact holds_calls (E := { E with h := E.h ++ [x] }) ((hkw.ext hx7).ext hx) hfit (hE3.ext hx) ((hLw.ext hx7).ext hx) (by simp only [List.length_append, List.length_singleton]; omega) (by simp only; omega)
      have hc4 : ∀ w_, Ext wd w_ → Calls Tryz.prog 14 #[.agg (snL s (.slice ka s.kids.length kc)).toArray, .int .i64 E.day, .slice ha E.h.length hc, .int .i64 E.known, .slice va E.l.length vc] w_ (fun e w' => ∃ v, e = .returned v ∧ v = .bool true ∧ Ext w_ w') := fun w_ hx => by
        rw [← hm4]
        exact holds_calls (E := { E with l := E.l.map (earlyS (by_ : Int)) }) ((hkw.ext hx7).ext hx) hfit ((hHw.ext hx7).ext hx) ((hEs.ext hx7).ext hx) (by simp only; omega) (by simp only [List.length_map]; omega)
      repeat' (first | refine x_mov ?_ | refine x_asg ?_ | refine x_fa ?_ | refine x_ext ?_ | refine x_binN ?_ | refine x_notd ?_ | refine x_notb ?_ | refine x_pick_t ?_ | refine x_pick_f ?_ | refine x_nilc ?_ | refine x_skip ?_ | refine x_lens ?_ | refine x_lenv ?_ | refine x_ix (fun _ => ?_) | (refine x_bin ?_ ?_ <;> intro _ <;> try (exfalso; omega)) | refine x_fn (fun w_ hw_ => hc3 w_ hw_) ?_ | refine x_fn (fun w_ hw_ => hc4 w_ hw_) ?_ | refine x_all (fun w_ hw_ => (hr9.ext hx7).ext hw_) ?_ | fail)
      refine x_nil ?_
      intro w8 hx8
      refine hK _ _ ?_
      clear hK K
      refine wk_ret (retQ_tmp1 Tryz.results4 (by decide) rfl (by conv => lhs; whnf) ?_)
      exact ⟨rfl, (hxx.trans (hx7.trans hx8))⟩
end Go.Proofs
