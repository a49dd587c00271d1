/-
  The reference's Same, Alike, Name, Decimal; the laws' written.
-/
import Derived.Test.YtbcpepjndkojdaaDoorF
import Derived.Test.YtbcpepjndkojdaaDoorG
import Derived.Test.YtbcpepjndkojdaaDoorP
import Derived.Test.YtbcpepjndkojdaaDoorEq
set_option linter.unusedVariables false
set_option linter.unusedSimpArgs false
namespace Go.Proofs
open Go Go.Pd Go.Lexs
attribute [local irreducible] OpsL W RetQ OpsQ OpsC

theorem tokL_len (t : Tok) : (tokL t).length = 4 := rfl
theorem tokL_one (t : Tok) : (tokL t).all Value.oneCell' = true := by simp only [tokL, str_eq]; rfl
theorem toksL_len (l : List Tok) : (toksL l).length = l.length * 4 := flat_length tokL_len l

theorem tok_dec (t u : Tok) (k : Nat) : (decide ((t.kind : Int) = (u.kind : Int)) && (decide (t.text = u.text) && (decide ((t.num : Int) = (u.num : Int)) && (decide ((t.pos : Int) + (k : Int) = (u.pos : Int)) && true)))) = decide (t.shift k = u) := by
  have e : t.shift k = u ↔ t.kind = u.kind ∧ t.text = u.text ∧ t.num = u.num ∧ t.pos + k = u.pos := by
    cases t; cases u; simp [Tok.shift]
  rw [Bool.eq_iff_iff]
  simp only [Bool.and_eq_true, decide_eq_true_eq, e]
  constructor
  · rintro ⟨h1, h2, h3, h4, -⟩; exact ⟨by omega, h2, by omega, by omega⟩
  · rintro ⟨h1, h2, h3, h4⟩; exact ⟨by omega, h2, by omega, by omega, trivial⟩

theorem map_take_succ {a b : List Tok} {f : Tok → Tok} {k : Nat} (ha : k < a.length) (hb : k < b.length) (h : (a.take k).map f = b.take k) (he : f a[k] = b[k]) : (a.take (k + 1)).map f = b.take (k + 1) := by
  rw [List.take_succ_eq_append_getElem ha, List.take_succ_eq_append_getElem hb, List.map_append, h]
  simp [he]

set_option maxHeartbeats 1000000 in
theorem same_calls (a b : List Tok) (k0 : Nat) (v u : Value) (w : World) (hv : Sl w v 4 (toksL a)) (hu : Sl w u 4 (toksL b)) (ha : a.length ≤ 9223372036854775806) (hp : ∀ t ∈ a, t.pos + k0 ≤ 9223372036854775807) :
    Calls Tryd.prog 14 #[v, .int .i64 (k0 : Int), u] w (fun e w' => ∃ x, e = .returned x ∧ x = .bool (decide (a.map (Tok.shift k0) = b)) ∧ Ext w w') := by
  obtain ⟨pa, ca, rfl, -⟩ := hv.shape (toksL_len a) (by omega)
  obtain ⟨pb, cb, rfl, -⟩ := hu.shape (toksL_len b) (by omega)
  refine calls_of Tryd.func14 rfl Tryd.ntmps14 rfl ?_
  repeat' (first | refine o_mov rfl (by conv => lhs; whnf) ?_ | refine o_asg rfl (by conv => lhs; whnf) ?_ | refine o_binN rfl rfl rfl rfl (by omega) ?_ | refine o_notd rfl rfl ?_ | refine o_notb rfl rfl ?_ | refine o_nilc rfl rfl ?_ | refine o_fa rfl rfl rfl ?_ | refine o_ext rfl rfl (by conv => lhs; whnf) ?_ | refine o_lenv rfl rfl rfl ?_ | refine o_lens rfl rfl rfl ?_ | refine o_pick_t rfl rfl (by conv => lhs; whnf) ?_ | refine o_pick_f rfl rfl (by conv => lhs; whnf) ?_ | refine o_not rfl ?_ | refine o_nilf rfl rfl ?_ | (refine o_nil (hK _ _ ?_); clear hK K) | refine wk_reg ?_ | refine wk_seq fun K hK => ?_ | (refine wk_skip (hK _ _ ?_); clear hK K) | (refine wk_label (hK _ _ ?_); clear hK K) | refine wk_scope ?_ | refine wk_block ?_ | refine wk_cond_t rfl ?_ | refine wk_cond_f rfl ?_ | (refine wk_exit ?_; (repeat (refine blockK_other rfl ?_)); refine blockK_same ?_; (first | (refine hK _ _ ?_; clear hK K) | (clear hK K; refine hK _ _ ?_; clear hK K) | (clear hK K; clear hK K; refine hK _ _ ?_; clear hK K) | (clear hK K; clear hK K; clear hK K; refine hK _ _ ?_; clear hK K) | (clear hK K; clear hK K; clear hK K; clear hK K; refine hK _ _ ?_; clear hK K) | (clear hK K; clear hK K; clear hK K; clear hK K; clear hK K; refine hK _ _ ?_; clear hK K) | skip)) | (refine o_binT rfl rfl rfl rfl ?_ ?_ <;> intro _))
  · refine wk_ret (retQ_tmp1 Tryd.results14 (by decide) rfl (by conv => lhs; whnf) ?_)
    refine ⟨?_, .refl _ _⟩
    rw [decide_eq_false]
    intro h
    have := congrArg List.length h
    rw [List.length_map] at this
    omega
  have hab : a.length = b.length := by omega
  refine wk_loopH [] rfl (fun k : Nat => [(0, .slice pa a.length ca), (1, .int .i64 (k0 : Int)), (2, .slice pb b.length cb), (7, .int .i64 (k : Int))]) (fun k w' => (k ≤ a.length ∧ (a.take k).map (Tok.shift k0) = b.take k) ∧ Ext w w') (fun k => a.length - k) 0 ⟨rfl, rfl, rfl, rfl, trivial⟩ ⟨⟨by omega, by simp⟩, .refl _ _⟩ ?_
  rintro k t w1 ⟨⟨hk, hpre⟩, he⟩
  repeat' (first | refine o_mov rfl (by conv => lhs; whnf) ?_ | refine o_asg rfl (by conv => lhs; whnf) ?_ | refine o_binN rfl rfl rfl rfl (by omega) ?_ | refine o_notd rfl rfl ?_ | refine o_notb rfl rfl ?_ | refine o_nilc rfl rfl ?_ | refine o_fa rfl rfl rfl ?_ | refine o_ext rfl rfl (by conv => lhs; whnf) ?_ | refine o_lenv rfl rfl rfl ?_ | refine o_lens rfl rfl rfl ?_ | refine o_pick_t rfl rfl (by conv => lhs; whnf) ?_ | refine o_pick_f rfl rfl (by conv => lhs; whnf) ?_ | refine o_not rfl ?_ | refine o_nilf rfl rfl ?_ | (refine o_nil (hK _ _ ?_); clear hK K) | refine wk_reg ?_ | refine wk_seq fun K hK => ?_ | (refine wk_skip (hK _ _ ?_); clear hK K) | (refine wk_label (hK _ _ ?_); clear hK K) | refine wk_scope ?_ | refine wk_block ?_ | refine wk_cond_t rfl ?_ | refine wk_cond_f rfl ?_ | (refine wk_exit ?_; (repeat (refine blockK_other rfl ?_)); refine blockK_same ?_; (first | (refine hK _ _ ?_; clear hK K) | (clear hK K; refine hK _ _ ?_; clear hK K) | (clear hK K; clear hK K; refine hK _ _ ?_; clear hK K) | (clear hK K; clear hK K; clear hK K; refine hK _ _ ?_; clear hK K) | (clear hK K; clear hK K; clear hK K; clear hK K; refine hK _ _ ?_; clear hK K) | (clear hK K; clear hK K; clear hK K; clear hK K; clear hK K; refine hK _ _ ?_; clear hK K) | skip)) | (refine o_binT rfl rfl rfl rfl ?_ ?_ <;> intro _))
  · have hka : k < a.length := by omega
    have hkb : k < b.length := by omega
    obtain ⟨ba, oa, hpa, hra⟩ := (hv.ext he).at (toksL_len a) (by omega) (by omega)
    obtain ⟨bb, ob, hpb, hrb⟩ := (hu.ext he).at (toksL_len b) (by omega) (by omega)
    have hra := hra.elem tokL_len (k := k) (t := a[k]) (by simp [hka])
    have hrb := hrb.elem tokL_len (k := k) (t := b[k]) (by simp [hkb])
    refine o_indexAddr (k := 4) k hpa hka rfl rfl rfl rfl rfl rfl ?_
    refine o_loadN (vs := [.int .i64 ((a[k]).kind : Int), str (a[k]).text, .int .i64 ((a[k]).num : Int), .int .i64 ((a[k]).pos : Int)]) rfl rfl rfl rfl hra ?_
    refine o_alloc (LH.start w1 (fun _ => False)) [.int .i64 0, .string ⟨#[]⟩, .int .i64 0, .int .i64 0] rfl rfl ?_
    intro x w2 hx hl
    refine o_putN hl rfl rfl rfl (tokL_one a[k]) rfl (.all rfl rfl) ?_
    clear hl
    intro w3 hl
    have hpk := hp a[k] (List.getElem_mem hka)
    repeat' (first | refine o_mov rfl (by conv => lhs; whnf) ?_ | refine o_asg rfl (by conv => lhs; whnf) ?_ | refine o_binN rfl rfl rfl rfl (by omega) ?_ | refine o_notd rfl rfl ?_ | refine o_notb rfl rfl ?_ | refine o_nilc rfl rfl ?_ | refine o_fa2 rfl rfl (by conv => lhs; whnf; arg 1; whnf) (by first | (conv => lhs; simp only [Nat.reduceAdd, Nat.zero_add, Nat.add_zero]) | rfl) ?_ | refine o_ext rfl rfl (by conv => lhs; whnf) ?_ | refine o_lenv rfl rfl rfl ?_ | refine o_lens rfl rfl rfl ?_ | refine o_pick_t rfl rfl (by conv => lhs; whnf) ?_ | refine o_pick_f rfl rfl (by conv => lhs; whnf) ?_ | refine o_not rfl ?_ | refine o_nilf rfl rfl ?_ | (refine o_nil (hK _ _ ?_); clear hK K) | refine wk_reg ?_ | refine wk_seq fun K hK => ?_ | (refine wk_skip (hK _ _ ?_); clear hK K) | (refine wk_label (hK _ _ ?_); clear hK K) | refine wk_scope ?_ | refine wk_block ?_ | refine wk_cond_t rfl ?_ | refine wk_cond_f rfl ?_ | (refine wk_exit ?_; (repeat (refine blockK_other rfl ?_)); refine blockK_same ?_; (first | (refine hK _ _ ?_; clear hK K) | (clear hK K; refine hK _ _ ?_; clear hK K) | (clear hK K; clear hK K; refine hK _ _ ?_; clear hK K) | (clear hK K; clear hK K; clear hK K; refine hK _ _ ?_; clear hK K) | (clear hK K; clear hK K; clear hK K; clear hK K; refine hK _ _ ?_; clear hK K) | (clear hK K; clear hK K; clear hK K; clear hK K; clear hK K; refine hK _ _ ?_; clear hK K) | skip)) | (refine o_binT rfl rfl rfl rfl ?_ ?_ <;> intro _) | refine o_load rfl rfl rfl (by first | exact hl.cell 0 rfl rfl | exact hl.cell 1 rfl rfl | exact hl.cell 2 rfl rfl | exact hl.cell 3 rfl rfl | exact hl.cell 4 rfl rfl | exact hl.cell 5 rfl rfl | exact hl.cell 6 rfl rfl | exact hl.cell 7 rfl rfl | exact hl.cell 8 rfl rfl | exact hl.cell 9 rfl rfl) ?_ | (refine o_put1 hl rfl rfl (by conv => lhs; whnf) (by first | exact ⟨rfl, rfl⟩ | exact cell1_str _) rfl (by repeat (first | exact Put.here rfl (by conv => lhs; simp only [List.set_cons_zero, List.set_cons_succ, Nat.reduceAdd, Nat.zero_add]) | refine Put.there ?_)) ?_; clear hl; intro _ hl) | refine o_ix (by omega) rfl rfl rfl rfl rfl ?_ | fail)
    refine wk_draw [0, 1, 2, 3, 4, 5] [] [] (fun w' => LH w1 (fun _ => False) w' [(x, .cells #[.int .i64 (a[k].kind : Int), str a[k].text, .int .i64 (a[k].num : Int), .int .i64 ((a[k].pos : Int) + (k0 : Int))] 30 (0, 0))]) (fun _ => True) rfl (by kernel_rfl) (fun _ _ _ _ h => by first | exact h | (simp only [BlockK, NoGoto, RetQ] at h)) (fun _ h => hl.heap h) (fun _ _ => trivial) ?_
    refine q_val rfl rfl rfl rfl (fun w' hw' => r_loadN (vs := [.int .i64 (a[k].kind : Int), str a[k].text, .int .i64 (a[k].num : Int), .int .i64 ((a[k].pos : Int) + (k0 : Int))]) rfl rfl rfl (hw'.rowL (vs := [.int .i64 (a[k].kind : Int), str a[k].text, .int .i64 (a[k].num : Int), .int .i64 ((a[k].pos : Int) + (k0 : Int))]) 0 0 4 rfl)) ?_
    repeat (first | refine q_pur rfl rfl rfl (fun _ => r_mov (by conv => lhs; whnf)) ?_ | refine q_pur rfl rfl rfl (fun _ => r_asg (by conv => lhs; whnf)) ?_ | refine q_pur rfl rfl rfl (fun _ => r_fa2 rfl (by conv => lhs; whnf; arg 1; whnf) (by first | (conv => lhs; simp only [Nat.reduceAdd, Nat.zero_add, Nat.add_zero]) | rfl)) ?_ | refine q_pur rfl rfl rfl (fun _ => r_ext rfl (by conv => lhs; whnf)) ?_ | refine q_pur rfl rfl rfl (fun _ => r_binN rfl rfl rfl (by omega)) ?_ | refine q_pur rfl rfl rfl (fun _ => r_binC rfl rfl rfl) ?_ | refine q_pur rfl rfl rfl (fun _ => r_ix (by omega) rfl rfl rfl rfl) ?_ | refine q_pur rfl rfl rfl (fun _ => r_notd rfl) ?_ | refine q_pur rfl rfl rfl (fun _ => r_notb rfl) ?_ | refine q_pur rfl rfl rfl (fun _ => r_pick_t rfl (by conv => lhs; whnf)) ?_ | refine q_pur rfl rfl rfl (fun _ => r_pick_f rfl (by conv => lhs; whnf)) ?_ | refine q_pur rfl rfl rfl (fun _ => r_nilc rfl) ?_ | refine q_not rfl rfl ?_ | refine q_val rfl rfl rfl rfl (fun w_ hw_ => r_lens rfl rfl) ?_ | refine q_val rfl rfl rfl rfl (fun w_ hw_ => r_lenv rfl rfl) ?_ | refine q_nil ?_)
    refine q_pur rfl rfl rfl (fun _ => r_indexAddr (k := 4) k hpb hkb rfl rfl rfl rfl rfl) ?_
    refine q_val rfl rfl rfl rfl (fun w' hw' => r_loadN (vs := [.int .i64 ((b[k]).kind : Int), str (b[k]).text, .int .i64 ((b[k]).num : Int), .int .i64 ((b[k]).pos : Int)]) rfl rfl rfl (hrb.ext hw'.done)) ?_
    refine q_pur rfl rfl rfl (fun _ => r_neS rfl rfl (by kernel_rfl) rfl (by kernel_rfl) (.cons (by decide) rfl rfl rfl (by first | exact .int rfl | exact .str rfl | exact .bool rfl) (.cons (by decide) rfl rfl rfl (by first | exact .int rfl | exact .str rfl | exact .bool rfl) (.cons (by decide) rfl rfl rfl (by first | exact .int rfl | exact .str rfl | exact .bool rfl) (.cons (by decide) rfl rfl rfl (by first | exact .int rfl | exact .str rfl | exact .bool rfl) .nil))))) ?_
    rw [tok_dec]
    refine q_nil ?_
    intro w4 hl
    refine ops_nil (hK _ _ ?_)
    clear hK K
    by_cases heq : a[k].shift k0 = b[k]
    · rw [decide_eq_true heq]
      repeat' (first | refine o_mov rfl (by conv => lhs; whnf) ?_ | refine o_asg rfl (by conv => lhs; whnf) ?_ | refine o_binN rfl rfl rfl rfl (by omega) ?_ | refine o_notd rfl rfl ?_ | refine o_notb rfl rfl ?_ | refine o_nilc rfl rfl ?_ | refine o_fa2 rfl rfl (by conv => lhs; whnf; arg 1; whnf) (by first | (conv => lhs; simp only [Nat.reduceAdd, Nat.zero_add, Nat.add_zero]) | rfl) ?_ | refine o_ext rfl rfl (by conv => lhs; whnf) ?_ | refine o_lenv rfl rfl rfl ?_ | refine o_lens rfl rfl rfl ?_ | refine o_pick_t rfl rfl (by conv => lhs; whnf) ?_ | refine o_pick_f rfl rfl (by conv => lhs; whnf) ?_ | refine o_not rfl ?_ | refine o_nilf rfl rfl ?_ | (refine o_nil (hK _ _ ?_); clear hK K) | refine wk_reg ?_ | refine wk_seq fun K hK => ?_ | (refine wk_skip (hK _ _ ?_); clear hK K) | (refine wk_label (hK _ _ ?_); clear hK K) | refine wk_scope ?_ | refine wk_block ?_ | refine wk_cond_t rfl ?_ | refine wk_cond_f rfl ?_ | (refine wk_exit ?_; (repeat (refine blockK_other rfl ?_)); refine blockK_same ?_; (first | (refine hK _ _ ?_; clear hK K) | (clear hK K; refine hK _ _ ?_; clear hK K) | (clear hK K; clear hK K; refine hK _ _ ?_; clear hK K) | (clear hK K; clear hK K; clear hK K; refine hK _ _ ?_; clear hK K) | (clear hK K; clear hK K; clear hK K; clear hK K; refine hK _ _ ?_; clear hK K) | (clear hK K; clear hK K; clear hK K; clear hK K; clear hK K; refine hK _ _ ?_; clear hK K) | skip)) | (refine o_binT rfl rfl rfl rfl ?_ ?_ <;> intro _) | refine o_load rfl rfl rfl (by first | exact hl.cell 0 rfl rfl | exact hl.cell 1 rfl rfl | exact hl.cell 2 rfl rfl | exact hl.cell 3 rfl rfl | exact hl.cell 4 rfl rfl | exact hl.cell 5 rfl rfl | exact hl.cell 6 rfl rfl | exact hl.cell 7 rfl rfl | exact hl.cell 8 rfl rfl | exact hl.cell 9 rfl rfl) ?_ | (refine o_put1 hl rfl rfl (by conv => lhs; whnf) (by first | exact ⟨rfl, rfl⟩ | exact cell1_str _) rfl (by repeat (first | exact Put.here rfl (by conv => lhs; simp only [List.set_cons_zero, List.set_cons_succ, Nat.reduceAdd, Nat.zero_add]) | refine Put.there ?_)) ?_; clear hl; intro _ hl) | refine o_ix (by omega) rfl rfl rfl rfl rfl ?_ | fail)
      refine o_nil ⟨k + 1, ⟨rfl, rfl, rfl, rfl, trivial⟩, rfl, ⟨⟨hka, map_take_succ hka hkb hpre heq⟩, he.trans hl.done⟩, by omega⟩
    · rw [decide_eq_false heq]
      repeat' (first | refine o_mov rfl (by conv => lhs; whnf) ?_ | refine o_asg rfl (by conv => lhs; whnf) ?_ | refine o_binN rfl rfl rfl rfl (by omega) ?_ | refine o_notd rfl rfl ?_ | refine o_notb rfl rfl ?_ | refine o_nilc rfl rfl ?_ | refine o_fa2 rfl rfl (by conv => lhs; whnf; arg 1; whnf) (by first | (conv => lhs; simp only [Nat.reduceAdd, Nat.zero_add, Nat.add_zero]) | rfl) ?_ | refine o_ext rfl rfl (by conv => lhs; whnf) ?_ | refine o_lenv rfl rfl rfl ?_ | refine o_lens rfl rfl rfl ?_ | refine o_pick_t rfl rfl (by conv => lhs; whnf) ?_ | refine o_pick_f rfl rfl (by conv => lhs; whnf) ?_ | refine o_not rfl ?_ | refine o_nilf rfl rfl ?_ | (refine o_nil (hK _ _ ?_); clear hK K) | refine wk_reg ?_ | refine wk_seq fun K hK => ?_ | (refine wk_skip (hK _ _ ?_); clear hK K) | (refine wk_label (hK _ _ ?_); clear hK K) | refine wk_scope ?_ | refine wk_block ?_ | refine wk_cond_t rfl ?_ | refine wk_cond_f rfl ?_ | (refine wk_exit ?_; (repeat (refine blockK_other rfl ?_)); refine blockK_same ?_; (first | (refine hK _ _ ?_; clear hK K) | (clear hK K; refine hK _ _ ?_; clear hK K) | (clear hK K; clear hK K; refine hK _ _ ?_; clear hK K) | (clear hK K; clear hK K; clear hK K; refine hK _ _ ?_; clear hK K) | (clear hK K; clear hK K; clear hK K; clear hK K; refine hK _ _ ?_; clear hK K) | (clear hK K; clear hK K; clear hK K; clear hK K; clear hK K; refine hK _ _ ?_; clear hK K) | skip)) | (refine o_binT rfl rfl rfl rfl ?_ ?_ <;> intro _) | refine o_load rfl rfl rfl (by first | exact hl.cell 0 rfl rfl | exact hl.cell 1 rfl rfl | exact hl.cell 2 rfl rfl | exact hl.cell 3 rfl rfl | exact hl.cell 4 rfl rfl | exact hl.cell 5 rfl rfl | exact hl.cell 6 rfl rfl | exact hl.cell 7 rfl rfl | exact hl.cell 8 rfl rfl | exact hl.cell 9 rfl rfl) ?_ | (refine o_put1 hl rfl rfl (by conv => lhs; whnf) (by first | exact ⟨rfl, rfl⟩ | exact cell1_str _) rfl (by repeat (first | exact Put.here rfl (by conv => lhs; simp only [List.set_cons_zero, List.set_cons_succ, Nat.reduceAdd, Nat.zero_add]) | refine Put.there ?_)) ?_; clear hl; intro _ hl) | refine o_ix (by omega) rfl rfl rfl rfl rfl ?_ | fail)
      refine wk_ret (retQ_tmp1 Tryd.results14 (by decide) rfl (by conv => lhs; whnf) ?_)
      refine ⟨?_, he.trans hl.done⟩
      rw [decide_eq_false]
      intro h
      apply heq
      have h2 := congrArg (fun l => l[k]?) h
      simp [hka, hkb] at h2
      exact h2
  · have hka : k = a.length := by omega
    refine wk_ret (retQ_tmp1 Tryd.results14 (by decide) rfl (by conv => lhs; whnf) ?_)
    refine ⟨?_, he⟩
    rw [decide_eq_true]
    rw [hka, List.take_of_length_le (Nat.le_refl _), hab, List.take_of_length_le (Nat.le_refl _)] at hpre
    exact hpre

/-- Alike: what the reference asks of two lists. -/
def alikeB (a b : List Tok) : Bool := decide (a.map (fun t => (t.kind, t.text, t.num)) = b.map (fun t => (t.kind, t.text, t.num)))

theorem alikeB_of {a b : List Tok} (h : Like a b) : alikeB a b = true := by
  unfold alikeB
  rw [decide_eq_true_eq]
  induction h with
  | nil => rfl
  | cons h _ ih => simp [h.1, h.2.1, h.2.2, ih]


set_option maxHeartbeats 2000000 in
theorem alike_calls (a b : List Tok) (v u : Value) (w : World) (hv : Sl w v 4 (toksL a)) (hu : Sl w u 4 (toksL b)) (ha : a.length ≤ 9223372036854775806) :
    Calls Tryd.prog 17 #[v, u] w (fun e w' => ∃ x, e = .returned x ∧ x = .bool (alikeB a b) ∧ Ext w w') := by
  obtain ⟨pa, ca, rfl, -⟩ := hv.shape (toksL_len a) (by omega)
  obtain ⟨pb, cb, rfl, -⟩ := hu.shape (toksL_len b) (by omega)
  refine calls_of Tryd.func17 rfl Tryd.ntmps17 rfl ?_
  repeat' (first | refine o_mov rfl (by conv => lhs; whnf) ?_ | refine o_asg rfl (by conv => lhs; whnf) ?_ | refine o_binN rfl rfl rfl rfl (by omega) ?_ | refine o_notd rfl rfl ?_ | refine o_notb rfl rfl ?_ | refine o_nilc rfl rfl ?_ | refine o_fa rfl rfl rfl ?_ | refine o_ext rfl rfl (by conv => lhs; whnf) ?_ | refine o_lenv rfl rfl rfl ?_ | refine o_lens rfl rfl rfl ?_ | refine o_pick_t rfl rfl (by conv => lhs; whnf) ?_ | refine o_pick_f rfl rfl (by conv => lhs; whnf) ?_ | refine o_not rfl ?_ | refine o_nilf rfl rfl ?_ | (refine o_nil (hK _ _ ?_); clear hK K) | refine wk_reg ?_ | refine wk_seq fun K hK => ?_ | (refine wk_skip (hK _ _ ?_); clear hK K) | (refine wk_label (hK _ _ ?_); clear hK K) | refine wk_scope ?_ | refine wk_block ?_ | refine wk_cond_t rfl ?_ | refine wk_cond_f rfl ?_ | (refine wk_exit ?_; (repeat (refine blockK_other rfl ?_)); refine blockK_same ?_; (first | (refine hK _ _ ?_; clear hK K) | (clear hK K; refine hK _ _ ?_; clear hK K) | (clear hK K; clear hK K; refine hK _ _ ?_; clear hK K) | (clear hK K; clear hK K; clear hK K; refine hK _ _ ?_; clear hK K) | (clear hK K; clear hK K; clear hK K; clear hK K; refine hK _ _ ?_; clear hK K) | (clear hK K; clear hK K; clear hK K; clear hK K; clear hK K; refine hK _ _ ?_; clear hK K) | skip)) | (refine o_binT rfl rfl rfl rfl ?_ ?_ <;> intro _))
  · refine wk_ret (retQ_tmp1 Tryd.results17 (by decide) rfl (by conv => lhs; whnf) ?_)
    refine ⟨?_, .refl _ _⟩
    unfold alikeB
    rw [decide_eq_false]
    intro h
    have := congrArg List.length h
    rw [List.length_map, List.length_map] at this
    omega
  have hab : a.length = b.length := by omega
  refine wk_loopH [] rfl (fun k : Nat => [(0, .slice pa a.length ca), (1, .slice pb b.length cb), (5, .int .i64 (k : Int))]) (fun k w' => (k ≤ a.length ∧ (a.take k).map (fun t => (t.kind, t.text, t.num)) = (b.take k).map (fun t => (t.kind, t.text, t.num))) ∧ Ext w w') (fun k => a.length - k) 0 ⟨rfl, rfl, rfl, trivial⟩ ⟨⟨by omega, by simp⟩, .refl _ _⟩ ?_
  rintro k t w1 ⟨⟨hk, hpre⟩, he⟩
  repeat' (first | refine o_mov rfl (by conv => lhs; whnf) ?_ | refine o_asg rfl (by conv => lhs; whnf) ?_ | refine o_binN rfl rfl rfl rfl (by omega) ?_ | refine o_notd rfl rfl ?_ | refine o_notb rfl rfl ?_ | refine o_nilc rfl rfl ?_ | refine o_fa rfl rfl rfl ?_ | refine o_ext rfl rfl (by conv => lhs; whnf) ?_ | refine o_lenv rfl rfl rfl ?_ | refine o_lens rfl rfl rfl ?_ | refine o_pick_t rfl rfl (by conv => lhs; whnf) ?_ | refine o_pick_f rfl rfl (by conv => lhs; whnf) ?_ | refine o_not rfl ?_ | refine o_nilf rfl rfl ?_ | (refine o_nil (hK _ _ ?_); clear hK K) | refine wk_reg ?_ | refine wk_seq fun K hK => ?_ | (refine wk_skip (hK _ _ ?_); clear hK K) | (refine wk_label (hK _ _ ?_); clear hK K) | refine wk_scope ?_ | refine wk_block ?_ | refine wk_cond_t rfl ?_ | refine wk_cond_f rfl ?_ | (refine wk_exit ?_; (repeat (refine blockK_other rfl ?_)); refine blockK_same ?_; (first | (refine hK _ _ ?_; clear hK K) | (clear hK K; refine hK _ _ ?_; clear hK K) | (clear hK K; clear hK K; refine hK _ _ ?_; clear hK K) | (clear hK K; clear hK K; clear hK K; refine hK _ _ ?_; clear hK K) | (clear hK K; clear hK K; clear hK K; clear hK K; refine hK _ _ ?_; clear hK K) | (clear hK K; clear hK K; clear hK K; clear hK K; clear hK K; refine hK _ _ ?_; clear hK K) | skip)) | (refine o_binT rfl rfl rfl rfl ?_ ?_ <;> intro _))
  · have hka : k < a.length := by omega
    have hkb : k < b.length := by omega
    obtain ⟨ba, oa, hpa, hra⟩ := (hv.ext he).at (toksL_len a) (by omega) (by omega)
    obtain ⟨bb, ob, hpb, hrb⟩ := (hu.ext he).at (toksL_len b) (by omega) (by omega)
    have hra : Row w1 ba (oa + k * 4) [.int .i64 ((a[k]).kind : Int), str (a[k]).text, .int .i64 ((a[k]).num : Int), .int .i64 ((a[k]).pos : Int)] := hra.elem tokL_len (k := k) (t := a[k]) (by simp [hka])
    have hrb : Row w1 bb (ob + k * 4) [.int .i64 ((b[k]).kind : Int), str (b[k]).text, .int .i64 ((b[k]).num : Int), .int .i64 ((b[k]).pos : Int)] := hrb.elem tokL_len (k := k) (t := b[k]) (by simp [hkb])
    have hno : ¬ (a[k].kind = b[k].kind ∧ a[k].text = b[k].text ∧ a[k].num = b[k].num) → alikeB a b = false := fun h => by
      unfold alikeB
      rw [decide_eq_false]
      intro h2
      apply h
      have h3 := congrArg (fun l => l[k]?) h2
      simpa [hka, hkb] using h3
    refine wk_draw [0, 1, 2, 3, 4, 5, 6, 7, 8, 9, 10, 11, 12, 13, 14, 15, 16, 17, 18, 19, 20, 21, 22, 23, 24, 25, 26, 27, 28, 29, 30, 31, 32, 33, 34, 35, 36] [] [] (fun w' => Row w' ba (oa + k * 4) [.int .i64 ((a[k]).kind : Int), str (a[k]).text, .int .i64 ((a[k]).num : Int), .int .i64 ((a[k]).pos : Int)] ∧ Row w' bb (ob + k * 4) [.int .i64 ((b[k]).kind : Int), str (b[k]).text, .int .i64 ((b[k]).num : Int), .int .i64 ((b[k]).pos : Int)] ∧ Ext w w') (fun _ => True) rfl (by kernel_rfl) (fun _ _ _ _ h => by first | exact h | (simp only [BlockK, NoGoto, RetQ] at h)) (fun _ h => ⟨hra.heap h, hrb.heap h, he.trans (Upd.of_heap h)⟩) (fun _ _ => trivial) ?_
    repeat' (first | refine q_pur rfl rfl rfl (fun _ => r_mov (by conv => lhs; whnf)) ?_ | refine q_pur rfl rfl rfl (fun _ => r_asg (by conv => lhs; whnf)) ?_ | refine q_pur rfl rfl rfl (fun _ => r_fa2 rfl (by conv => lhs; whnf; arg 1; whnf) (by first | (conv => lhs; simp only [Nat.reduceAdd, Nat.zero_add, Nat.add_zero]) | rfl)) ?_ | refine q_pur rfl rfl rfl (fun _ => r_ext rfl (by conv => lhs; whnf)) ?_ | refine q_pur rfl rfl rfl (fun _ => r_binN rfl rfl rfl (by omega)) ?_ | refine q_pur rfl rfl rfl (fun _ => r_ix (by omega) rfl rfl rfl rfl) ?_ | refine q_pur rfl rfl rfl (fun _ => r_notd rfl) ?_ | refine q_pur rfl rfl rfl (fun _ => r_notb rfl) ?_ | refine q_pur rfl rfl rfl (fun _ => r_pick_t rfl (by conv => lhs; whnf)) ?_ | refine q_pur rfl rfl rfl (fun _ => r_pick_f rfl (by conv => lhs; whnf)) ?_ | refine q_pur rfl rfl rfl (fun _ => r_nilc rfl) ?_ | refine q_not rfl rfl ?_ | refine q_val rfl rfl rfl rfl (fun w_ hw_ => r_lens rfl rfl) ?_ | refine q_val rfl rfl rfl rfl (fun w_ hw_ => r_lenv rfl rfl) ?_ | refine q_nil ?_ | (refine q_binT rfl rfl rfl rfl rfl ?_ ?_ <;> intro _) | refine q_pur rfl rfl rfl (fun _ => r_indexAddr (k := 4) k hpa hka rfl rfl rfl rfl rfl) ?_ | refine q_pur rfl rfl rfl (fun _ => r_indexAddr (k := 4) k hpb hkb rfl rfl rfl rfl rfl) ?_ | refine q_val rfl rfl rfl rfl (fun w_ hw_ => r_load rfl rfl (by first | exact hw_.1 0 _ rfl | exact hw_.1 1 _ rfl | exact hw_.1 2 _ rfl | exact hw_.1 3 _ rfl)) ?_ | refine q_val rfl rfl rfl rfl (fun w_ hw_ => r_load rfl rfl (by first | exact hw_.2.1 0 _ rfl | exact hw_.2.1 1 _ rfl | exact hw_.2.1 2 _ rfl | exact hw_.2.1 3 _ rfl)) ?_ | (refine q_nesT rfl rfl rfl rfl ?_ ?_ <;> intro _))
    all_goals (intro w4 hw4; refine ops_nil (hK _ _ ?_); clear hK K)
    all_goals repeat' (first | refine o_mov rfl (by conv => lhs; whnf) ?_ | refine o_asg rfl (by conv => lhs; whnf) ?_ | refine o_binN rfl rfl rfl rfl (by omega) ?_ | refine o_notd rfl rfl ?_ | refine o_notb rfl rfl ?_ | refine o_nilc rfl rfl ?_ | refine o_fa2 rfl rfl (by conv => lhs; whnf; arg 1; whnf) (by first | (conv => lhs; simp only [Nat.reduceAdd, Nat.zero_add, Nat.add_zero]) | rfl) ?_ | refine o_ext rfl rfl (by conv => lhs; whnf) ?_ | refine o_lenv rfl rfl rfl ?_ | refine o_lens rfl rfl rfl ?_ | refine o_pick_t rfl rfl (by conv => lhs; whnf) ?_ | refine o_pick_f rfl rfl (by conv => lhs; whnf) ?_ | refine o_not rfl ?_ | refine o_nilf rfl rfl ?_ | (refine o_nil (hK _ _ ?_); clear hK K) | refine wk_reg ?_ | refine wk_seq fun K hK => ?_ | (refine wk_skip (hK _ _ ?_); clear hK K) | (refine wk_label (hK _ _ ?_); clear hK K) | refine wk_scope ?_ | refine wk_block ?_ | refine wk_cond_t rfl ?_ | refine wk_cond_f rfl ?_ | (refine wk_exit ?_; (repeat (refine blockK_other rfl ?_)); refine blockK_same ?_; (first | (refine hK _ _ ?_; clear hK K) | (clear hK K; refine hK _ _ ?_; clear hK K) | (clear hK K; clear hK K; refine hK _ _ ?_; clear hK K) | (clear hK K; clear hK K; clear hK K; refine hK _ _ ?_; clear hK K) | (clear hK K; clear hK K; clear hK K; clear hK K; refine hK _ _ ?_; clear hK K) | (clear hK K; clear hK K; clear hK K; clear hK K; clear hK K; refine hK _ _ ?_; clear hK K) | skip)) | (refine o_binT rfl rfl rfl rfl ?_ ?_ <;> intro _) | refine o_load rfl rfl rfl (by first | exact hl.cell 0 rfl rfl | exact hl.cell 1 rfl rfl | exact hl.cell 2 rfl rfl | exact hl.cell 3 rfl rfl | exact hl.cell 4 rfl rfl | exact hl.cell 5 rfl rfl | exact hl.cell 6 rfl rfl | exact hl.cell 7 rfl rfl | exact hl.cell 8 rfl rfl | exact hl.cell 9 rfl rfl) ?_ | (refine o_put1 hl rfl rfl (by conv => lhs; whnf) (by first | exact ⟨rfl, rfl⟩ | exact cell1_str _) rfl (by repeat (first | exact Put.here rfl (by conv => lhs; simp only [List.set_cons_zero, List.set_cons_succ, Nat.reduceAdd, Nat.zero_add]) | refine Put.there ?_)) ?_; clear hl; intro _ hl) | refine o_ix (by omega) rfl rfl rfl rfl rfl ?_ | fail)
    · refine wk_ret (retQ_tmp1 Tryd.results17 (by decide) rfl (by conv => lhs; whnf) ?_)
      exact ⟨by rw [hno (by omega)], hw4.2.2⟩
    · refine wk_ret (retQ_tmp1 Tryd.results17 (by decide) rfl (by conv => lhs; whnf) ?_)
      exact ⟨by rw [hno (fun h => by rename_i h2; exact h2 h.2.1)], hw4.2.2⟩
    · refine wk_ret (retQ_tmp1 Tryd.results17 (by decide) rfl (by conv => lhs; whnf) ?_)
      exact ⟨by rw [hno (by omega)], hw4.2.2⟩
    · refine o_nil ⟨k + 1, ⟨rfl, rfl, rfl, trivial⟩, rfl, ⟨⟨hka, ?_⟩, hw4.2.2⟩, by omega⟩
      rename_i h1 h2 h3
      have e1 : a[k].kind = b[k].kind := by omega
      have e3 : a[k].num = b[k].num := by omega
      rw [List.take_succ_eq_append_getElem hka, List.take_succ_eq_append_getElem hkb, List.map_append, List.map_append, hpre]
      simp [e1, e3, h2]
  · have hka : k = a.length := by omega
    refine wk_ret (retQ_tmp1 Tryd.results17 (by decide) rfl (by conv => lhs; whnf) ?_)
    refine ⟨?_, he⟩
    unfold alikeB
    rw [decide_eq_true]
    rw [hka, List.take_of_length_le (Nat.le_refl _), hab, List.take_of_length_le (Nat.le_refl _)] at hpre
    exact hpre

theorem cls3b (c : UInt8) : cls c = 3 ↔ isLetter c = true := by
  constructor
  · intro h
    unfold cls at h
    split at h
    · assumption
    · repeat (split at h; · cases h)
      cases h
  · intro h; simp [cls, h]

/-- Is a text a name? -/
def nameB (s : List UInt8) : Bool := s.all isWord && decide (0 < s.length ∧ s.length ≤ 24 ∧ hd s = 3)

theorem name_calls (s : List UInt8) (hn : s.length ≤ 9223372036854775806) (w : World) : Calls Tryd.prog 18 #[str s] w (fun e w' => ∃ x, e = .returned x ∧ x = .bool (nameB s) ∧ w' = w) := by
  refine calls_of Tryd.func18 rfl Tryd.ntmps18 rfl ?_
  repeat' (first | refine o_mov rfl (by conv => lhs; whnf) ?_ | refine o_asg rfl (by conv => lhs; whnf) ?_ | refine o_binN rfl rfl rfl rfl (by omega) ?_ | refine o_notd rfl rfl ?_ | refine o_notb rfl rfl ?_ | refine o_nilc rfl rfl ?_ | refine o_fa rfl rfl rfl ?_ | refine o_ext rfl rfl (by conv => lhs; whnf) ?_ | refine o_lenv rfl rfl rfl ?_ | refine o_lens rfl rfl rfl ?_ | refine o_pick_t rfl rfl (by conv => lhs; whnf) ?_ | refine o_pick_f rfl rfl (by conv => lhs; whnf) ?_ | refine o_not rfl ?_ | refine o_nilf rfl rfl ?_ | (refine o_nil (hK _ _ ?_); clear hK K) | refine wk_reg ?_ | refine wk_seq fun K hK => ?_ | (refine wk_skip (hK _ _ ?_); clear hK K) | (refine wk_label (hK _ _ ?_); clear hK K) | refine wk_scope ?_ | refine wk_block ?_ | refine wk_cond_t rfl ?_ | refine wk_cond_f rfl ?_ | (refine wk_exit ?_; (repeat (refine blockK_other rfl ?_)); refine blockK_same ?_; (first | (refine hK _ _ ?_; clear hK K) | (clear hK K; refine hK _ _ ?_; clear hK K) | (clear hK K; clear hK K; refine hK _ _ ?_; clear hK K) | (clear hK K; clear hK K; clear hK K; refine hK _ _ ?_; clear hK K) | (clear hK K; clear hK K; clear hK K; clear hK K; refine hK _ _ ?_; clear hK K) | (clear hK K; clear hK K; clear hK K; clear hK K; clear hK K; refine hK _ _ ?_; clear hK K) | skip)) | (refine o_binT rfl rfl rfl rfl ?_ ?_ <;> intro _))
  refine wk_loopH [] rfl (fun k : Nat => [(0, str s), (3, .int .i64 (k : Int))]) (fun k w' => (k ≤ s.length ∧ (s.take k).all isWord = true) ∧ w' = w) (fun k => s.length - k) 0 ⟨rfl, rfl, trivial⟩ ⟨⟨by omega, by simp⟩, rfl⟩ ?_
  rintro k t _ ⟨⟨hk, hpre⟩, rfl⟩
  repeat' (first | refine o_mov rfl (by conv => lhs; whnf) ?_ | refine o_asg rfl (by conv => lhs; whnf) ?_ | refine o_binN rfl rfl rfl rfl (by omega) ?_ | refine o_notd rfl rfl ?_ | refine o_notb rfl rfl ?_ | refine o_nilc rfl rfl ?_ | refine o_fa2 rfl rfl (by conv => lhs; whnf; arg 1; whnf) (by first | (conv => lhs; simp only [Nat.reduceAdd, Nat.zero_add, Nat.add_zero]) | rfl) ?_ | refine o_ext rfl rfl (by conv => lhs; whnf) ?_ | refine o_lenv rfl rfl rfl ?_ | refine o_lens rfl rfl rfl ?_ | refine o_pick_t rfl rfl (by conv => lhs; whnf) ?_ | refine o_pick_f rfl rfl (by conv => lhs; whnf) ?_ | refine o_not rfl ?_ | refine o_nilf rfl rfl ?_ | (refine o_nil (hK _ _ ?_); clear hK K) | refine wk_reg ?_ | refine wk_seq fun K hK => ?_ | (refine wk_skip (hK _ _ ?_); clear hK K) | (refine wk_label (hK _ _ ?_); clear hK K) | refine wk_scope ?_ | refine wk_block ?_ | refine wk_cond_t rfl ?_ | refine wk_cond_f rfl ?_ | (refine wk_exit ?_; (repeat (refine blockK_other rfl ?_)); refine blockK_same ?_; (first | (refine hK _ _ ?_; clear hK K) | (clear hK K; refine hK _ _ ?_; clear hK K) | (clear hK K; clear hK K; refine hK _ _ ?_; clear hK K) | (clear hK K; clear hK K; clear hK K; refine hK _ _ ?_; clear hK K) | (clear hK K; clear hK K; clear hK K; clear hK K; refine hK _ _ ?_; clear hK K) | (clear hK K; clear hK K; clear hK K; clear hK K; clear hK K; refine hK _ _ ?_; clear hK K) | skip)) | (refine o_binT rfl rfl rfl rfl ?_ ?_ <;> intro _) | refine o_load rfl rfl rfl (by first | exact hl.cell 0 rfl rfl | exact hl.cell 1 rfl rfl | exact hl.cell 2 rfl rfl | exact hl.cell 3 rfl rfl | exact hl.cell 4 rfl rfl | exact hl.cell 5 rfl rfl | exact hl.cell 6 rfl rfl | exact hl.cell 7 rfl rfl | exact hl.cell 8 rfl rfl | exact hl.cell 9 rfl rfl) ?_ | (refine o_put1 hl rfl rfl (by conv => lhs; whnf) (by first | exact ⟨rfl, rfl⟩ | exact cell1_str _) rfl (by repeat (first | exact Put.here rfl (by conv => lhs; simp only [List.set_cons_zero, List.set_cons_succ, Nat.reduceAdd, Nat.zero_add]) | refine Put.there ?_)) ?_; clear hl; intro _ hl) | refine o_ix (by omega) rfl rfl rfl rfl rfl ?_ | fail)
  · have hlt : k < s.length := by omega
    refine o_fn (word_calls s[k] _) rfl (fun _ => rfl) rfl ?_
    rintro _ w2 ⟨rfl, rfl⟩
    cases hw : isWord s[k]
    · repeat' (first | refine o_mov rfl (by conv => lhs; whnf) ?_ | refine o_asg rfl (by conv => lhs; whnf) ?_ | refine o_binN rfl rfl rfl rfl (by omega) ?_ | refine o_notd rfl rfl ?_ | refine o_notb rfl rfl ?_ | refine o_nilc rfl rfl ?_ | refine o_fa2 rfl rfl (by conv => lhs; whnf; arg 1; whnf) (by first | (conv => lhs; simp only [Nat.reduceAdd, Nat.zero_add, Nat.add_zero]) | rfl) ?_ | refine o_ext rfl rfl (by conv => lhs; whnf) ?_ | refine o_lenv rfl rfl rfl ?_ | refine o_lens rfl rfl rfl ?_ | refine o_pick_t rfl rfl (by conv => lhs; whnf) ?_ | refine o_pick_f rfl rfl (by conv => lhs; whnf) ?_ | refine o_not rfl ?_ | refine o_nilf rfl rfl ?_ | (refine o_nil (hK _ _ ?_); clear hK K) | refine wk_reg ?_ | refine wk_seq fun K hK => ?_ | (refine wk_skip (hK _ _ ?_); clear hK K) | (refine wk_label (hK _ _ ?_); clear hK K) | refine wk_scope ?_ | refine wk_block ?_ | refine wk_cond_t rfl ?_ | refine wk_cond_f rfl ?_ | (refine wk_exit ?_; (repeat (refine blockK_other rfl ?_)); refine blockK_same ?_; (first | (refine hK _ _ ?_; clear hK K) | (clear hK K; refine hK _ _ ?_; clear hK K) | (clear hK K; clear hK K; refine hK _ _ ?_; clear hK K) | (clear hK K; clear hK K; clear hK K; refine hK _ _ ?_; clear hK K) | (clear hK K; clear hK K; clear hK K; clear hK K; refine hK _ _ ?_; clear hK K) | (clear hK K; clear hK K; clear hK K; clear hK K; clear hK K; refine hK _ _ ?_; clear hK K) | skip)) | (refine o_binT rfl rfl rfl rfl ?_ ?_ <;> intro _) | refine o_load rfl rfl rfl (by first | exact hl.cell 0 rfl rfl | exact hl.cell 1 rfl rfl | exact hl.cell 2 rfl rfl | exact hl.cell 3 rfl rfl | exact hl.cell 4 rfl rfl | exact hl.cell 5 rfl rfl | exact hl.cell 6 rfl rfl | exact hl.cell 7 rfl rfl | exact hl.cell 8 rfl rfl | exact hl.cell 9 rfl rfl) ?_ | (refine o_put1 hl rfl rfl (by conv => lhs; whnf) (by first | exact ⟨rfl, rfl⟩ | exact cell1_str _) rfl (by repeat (first | exact Put.here rfl (by conv => lhs; simp only [List.set_cons_zero, List.set_cons_succ, Nat.reduceAdd, Nat.zero_add]) | refine Put.there ?_)) ?_; clear hl; intro _ hl) | refine o_ix (by omega) rfl rfl rfl rfl rfl ?_ | fail)
      refine wk_ret (retQ_tmp1 Tryd.results18 (by decide) rfl (by conv => lhs; whnf) ?_)
      refine ⟨?_, rfl⟩
      have : s.all isWord = false := by
        rw [List.all_eq_false]
        exact ⟨s[k], List.getElem_mem hlt, by rw [hw]; simp⟩
      simp [nameB, this]
    · repeat' (first | refine o_mov rfl (by conv => lhs; whnf) ?_ | refine o_asg rfl (by conv => lhs; whnf) ?_ | refine o_binN rfl rfl rfl rfl (by omega) ?_ | refine o_notd rfl rfl ?_ | refine o_notb rfl rfl ?_ | refine o_nilc rfl rfl ?_ | refine o_fa2 rfl rfl (by conv => lhs; whnf; arg 1; whnf) (by first | (conv => lhs; simp only [Nat.reduceAdd, Nat.zero_add, Nat.add_zero]) | rfl) ?_ | refine o_ext rfl rfl (by conv => lhs; whnf) ?_ | refine o_lenv rfl rfl rfl ?_ | refine o_lens rfl rfl rfl ?_ | refine o_pick_t rfl rfl (by conv => lhs; whnf) ?_ | refine o_pick_f rfl rfl (by conv => lhs; whnf) ?_ | refine o_not rfl ?_ | refine o_nilf rfl rfl ?_ | (refine o_nil (hK _ _ ?_); clear hK K) | refine wk_reg ?_ | refine wk_seq fun K hK => ?_ | (refine wk_skip (hK _ _ ?_); clear hK K) | (refine wk_label (hK _ _ ?_); clear hK K) | refine wk_scope ?_ | refine wk_block ?_ | refine wk_cond_t rfl ?_ | refine wk_cond_f rfl ?_ | (refine wk_exit ?_; (repeat (refine blockK_other rfl ?_)); refine blockK_same ?_; (first | (refine hK _ _ ?_; clear hK K) | (clear hK K; refine hK _ _ ?_; clear hK K) | (clear hK K; clear hK K; refine hK _ _ ?_; clear hK K) | (clear hK K; clear hK K; clear hK K; refine hK _ _ ?_; clear hK K) | (clear hK K; clear hK K; clear hK K; clear hK K; refine hK _ _ ?_; clear hK K) | (clear hK K; clear hK K; clear hK K; clear hK K; clear hK K; refine hK _ _ ?_; clear hK K) | skip)) | (refine o_binT rfl rfl rfl rfl ?_ ?_ <;> intro _) | refine o_load rfl rfl rfl (by first | exact hl.cell 0 rfl rfl | exact hl.cell 1 rfl rfl | exact hl.cell 2 rfl rfl | exact hl.cell 3 rfl rfl | exact hl.cell 4 rfl rfl | exact hl.cell 5 rfl rfl | exact hl.cell 6 rfl rfl | exact hl.cell 7 rfl rfl | exact hl.cell 8 rfl rfl | exact hl.cell 9 rfl rfl) ?_ | (refine o_put1 hl rfl rfl (by conv => lhs; whnf) (by first | exact ⟨rfl, rfl⟩ | exact cell1_str _) rfl (by repeat (first | exact Put.here rfl (by conv => lhs; simp only [List.set_cons_zero, List.set_cons_succ, Nat.reduceAdd, Nat.zero_add]) | refine Put.there ?_)) ?_; clear hl; intro _ hl) | refine o_ix (by omega) rfl rfl rfl rfl rfl ?_ | fail)
      refine o_nil ⟨k + 1, ⟨rfl, rfl, trivial⟩, rfl, ⟨⟨hlt, ?_⟩, rfl⟩, by omega⟩
      rw [List.take_succ_eq_append_getElem hlt, List.all_append, hpre]
      simp [hw]
  all_goals (have hke : k = s.length := by omega)
  all_goals (rw [hke, List.take_length] at hpre)
  · have h0 : 0 < s.length := by omega
    refine o_index (c := s[0]) 0 rfl rfl rfl rfl rfl (by simp [h0]) ?_
    refine o_fn (letter_calls s[0] _) rfl (fun _ => rfl) rfl ?_
    rintro _ w2 ⟨rfl, rfl⟩
    repeat' (first | refine o_mov rfl (by conv => lhs; whnf) ?_ | refine o_asg rfl (by conv => lhs; whnf) ?_ | refine o_binN rfl rfl rfl rfl (by omega) ?_ | refine o_notd rfl rfl ?_ | refine o_notb rfl rfl ?_ | refine o_nilc rfl rfl ?_ | refine o_fa2 rfl rfl (by conv => lhs; whnf; arg 1; whnf) (by first | (conv => lhs; simp only [Nat.reduceAdd, Nat.zero_add, Nat.add_zero]) | rfl) ?_ | refine o_ext rfl rfl (by conv => lhs; whnf) ?_ | refine o_lenv rfl rfl rfl ?_ | refine o_lens rfl rfl rfl ?_ | refine o_pick_t rfl rfl (by conv => lhs; whnf) ?_ | refine o_pick_f rfl rfl (by conv => lhs; whnf) ?_ | refine o_not rfl ?_ | refine o_nilf rfl rfl ?_ | (refine o_nil (hK _ _ ?_); clear hK K) | refine wk_reg ?_ | refine wk_seq fun K hK => ?_ | (refine wk_skip (hK _ _ ?_); clear hK K) | (refine wk_label (hK _ _ ?_); clear hK K) | refine wk_scope ?_ | refine wk_block ?_ | refine wk_cond_t rfl ?_ | refine wk_cond_f rfl ?_ | (refine wk_exit ?_; (repeat (refine blockK_other rfl ?_)); refine blockK_same ?_; (first | (refine hK _ _ ?_; clear hK K) | (clear hK K; refine hK _ _ ?_; clear hK K) | (clear hK K; clear hK K; refine hK _ _ ?_; clear hK K) | (clear hK K; clear hK K; clear hK K; refine hK _ _ ?_; clear hK K) | (clear hK K; clear hK K; clear hK K; clear hK K; refine hK _ _ ?_; clear hK K) | (clear hK K; clear hK K; clear hK K; clear hK K; clear hK K; refine hK _ _ ?_; clear hK K) | skip)) | (refine o_binT rfl rfl rfl rfl ?_ ?_ <;> intro _) | refine o_load rfl rfl rfl (by first | exact hl.cell 0 rfl rfl | exact hl.cell 1 rfl rfl | exact hl.cell 2 rfl rfl | exact hl.cell 3 rfl rfl | exact hl.cell 4 rfl rfl | exact hl.cell 5 rfl rfl | exact hl.cell 6 rfl rfl | exact hl.cell 7 rfl rfl | exact hl.cell 8 rfl rfl | exact hl.cell 9 rfl rfl) ?_ | (refine o_put1 hl rfl rfl (by conv => lhs; whnf) (by first | exact ⟨rfl, rfl⟩ | exact cell1_str _) rfl (by repeat (first | exact Put.here rfl (by conv => lhs; simp only [List.set_cons_zero, List.set_cons_succ, Nat.reduceAdd, Nat.zero_add]) | refine Put.there ?_)) ?_; clear hl; intro _ hl) | refine o_ix (by omega) rfl rfl rfl rfl rfl ?_ | fail)
    refine wk_ret (retQ_tmp1 Tryd.results18 (by decide) rfl (by conv => lhs; whnf) ?_)
    refine ⟨?_, rfl⟩
    have hh : hd s = cls s[0] := by
      cases s with
      | nil => simp at h0
      | cons c s => rfl
    simp only [nameB, hpre, hh, Bool.true_and]
    congr 1
    rw [Bool.eq_iff_iff, decide_eq_true_iff]
    have := cls3b s[0]
    constructor
    · intro h; exact ⟨h0, by omega, this.2 h⟩
    · rintro ⟨-, -, h⟩; exact this.1 h
  all_goals (refine wk_ret (retQ_tmp1 Tryd.results18 (by decide) rfl (by conv => lhs; whnf) ?_))
  all_goals (refine ⟨?_, rfl⟩)
  all_goals (simp only [nameB])
  all_goals (rw [decide_eq_false (by omega)]; simp)

/-- A number in decimal digits. -/
def decimal (n : Nat) : List UInt8 := if h : n < 10 then [(48 + n).toUInt8] else decimal (n / 10) ++ [(48 + n % 10).toUInt8]

theorem decimal_small {n : Nat} (h : n < 10) : decimal n = [(48 + n).toUInt8] := by rw [decimal, dif_pos h]
theorem decimal_big {n : Nat} (h : ¬ n < 10) : decimal n = decimal (n / 10) ++ [(48 + n % 10).toUInt8] := by rw [decimal, dif_neg h]

theorem decimal_length (n : Nat) : (decimal n).length ≤ n + 1 := by
  induction n using Nat.strongRecOn with
  | _ n ih =>
    by_cases h : n < 10
    · rw [decimal_small h]; simp
    · rw [decimal_big h, List.length_append]
      have := ih (n / 10) (by omega)
      simp only [List.length_singleton]
      omega

theorem decimal_calls (n : Nat) : ∀ (hn : n ≤ 1000000000) (w : World), Calls Tryd.prog 19 #[.int .i64 (n : Int)] w (fun e w' => ∃ x, e = .returned x ∧ x = str (decimal n) ∧ w' = w) := by
  induction n using Nat.strongRecOn with
  | _ n ih =>
    intro hn w
    refine calls_of Tryd.func19 rfl Tryd.ntmps19 rfl ?_
    repeat' (first | refine o_mov rfl (by conv => lhs; whnf) ?_ | refine o_asg rfl (by conv => lhs; whnf) ?_ | refine o_binN rfl rfl rfl rfl (by omega) ?_ | refine o_notd rfl rfl ?_ | refine o_notb rfl rfl ?_ | refine o_nilc rfl rfl ?_ | refine o_fa2 rfl rfl (by conv => lhs; whnf; arg 1; whnf) (by first | (conv => lhs; simp only [Nat.reduceAdd, Nat.zero_add, Nat.add_zero]) | rfl) ?_ | refine o_ext rfl rfl (by conv => lhs; whnf) ?_ | refine o_lenv rfl rfl rfl ?_ | refine o_lens rfl rfl rfl ?_ | refine o_pick_t rfl rfl (by conv => lhs; whnf) ?_ | refine o_pick_f rfl rfl (by conv => lhs; whnf) ?_ | refine o_not rfl ?_ | refine o_nilf rfl rfl ?_ | (refine o_nil (hK _ _ ?_); clear hK K) | refine wk_reg ?_ | refine wk_seq fun K hK => ?_ | (refine wk_skip (hK _ _ ?_); clear hK K) | (refine wk_label (hK _ _ ?_); clear hK K) | refine wk_scope ?_ | refine wk_block ?_ | refine wk_cond_t rfl ?_ | refine wk_cond_f rfl ?_ | (refine wk_exit ?_; (repeat (refine blockK_other rfl ?_)); refine blockK_same ?_; (first | (refine hK _ _ ?_; clear hK K) | (clear hK K; refine hK _ _ ?_; clear hK K) | (clear hK K; clear hK K; refine hK _ _ ?_; clear hK K) | (clear hK K; clear hK K; clear hK K; refine hK _ _ ?_; clear hK K) | (clear hK K; clear hK K; clear hK K; clear hK K; refine hK _ _ ?_; clear hK K) | (clear hK K; clear hK K; clear hK K; clear hK K; clear hK K; refine hK _ _ ?_; clear hK K) | skip)) | (refine o_binT rfl rfl rfl rfl ?_ ?_ <;> intro _) | refine o_load rfl rfl rfl (by first | exact hl.cell 0 rfl rfl | exact hl.cell 1 rfl rfl | exact hl.cell 2 rfl rfl | exact hl.cell 3 rfl rfl | exact hl.cell 4 rfl rfl | exact hl.cell 5 rfl rfl | exact hl.cell 6 rfl rfl | exact hl.cell 7 rfl rfl | exact hl.cell 8 rfl rfl | exact hl.cell 9 rfl rfl) ?_ | (refine o_put1 hl rfl rfl (by conv => lhs; whnf) (by first | exact ⟨rfl, rfl⟩ | exact cell1_str _) rfl (by repeat (first | exact Put.here rfl (by conv => lhs; simp only [List.set_cons_zero, List.set_cons_succ, Nat.reduceAdd, Nat.zero_add]) | refine Put.there ?_)) ?_; clear hl; intro _ hl) | refine o_ix (by omega) rfl rfl rfl rfl rfl ?_ | fail)
    · have h10 : n < 10 := by omega
      refine o_cut2 (bs := [48, 49, 50, 51, 52, 53, 54, 55, 56, 57]) n (n + 1) (by omega) (by simp; omega) rfl rfl (by simp only [str_eq]; rfl) rfl rfl rfl rfl ?_
      repeat' (first | refine o_mov rfl (by conv => lhs; whnf) ?_ | refine o_asg rfl (by conv => lhs; whnf) ?_ | refine o_binN rfl rfl rfl rfl (by omega) ?_ | refine o_notd rfl rfl ?_ | refine o_notb rfl rfl ?_ | refine o_nilc rfl rfl ?_ | refine o_fa2 rfl rfl (by conv => lhs; whnf; arg 1; whnf) (by first | (conv => lhs; simp only [Nat.reduceAdd, Nat.zero_add, Nat.add_zero]) | rfl) ?_ | refine o_ext rfl rfl (by conv => lhs; whnf) ?_ | refine o_lenv rfl rfl rfl ?_ | refine o_lens rfl rfl rfl ?_ | refine o_pick_t rfl rfl (by conv => lhs; whnf) ?_ | refine o_pick_f rfl rfl (by conv => lhs; whnf) ?_ | refine o_not rfl ?_ | refine o_nilf rfl rfl ?_ | (refine o_nil (hK _ _ ?_); clear hK K) | refine wk_reg ?_ | refine wk_seq fun K hK => ?_ | (refine wk_skip (hK _ _ ?_); clear hK K) | (refine wk_label (hK _ _ ?_); clear hK K) | refine wk_scope ?_ | refine wk_block ?_ | refine wk_cond_t rfl ?_ | refine wk_cond_f rfl ?_ | (refine wk_exit ?_; (repeat (refine blockK_other rfl ?_)); refine blockK_same ?_; (first | (refine hK _ _ ?_; clear hK K) | (clear hK K; refine hK _ _ ?_; clear hK K) | (clear hK K; clear hK K; refine hK _ _ ?_; clear hK K) | (clear hK K; clear hK K; clear hK K; refine hK _ _ ?_; clear hK K) | (clear hK K; clear hK K; clear hK K; clear hK K; refine hK _ _ ?_; clear hK K) | (clear hK K; clear hK K; clear hK K; clear hK K; clear hK K; refine hK _ _ ?_; clear hK K) | skip)) | (refine o_binT rfl rfl rfl rfl ?_ ?_ <;> intro _) | refine o_load rfl rfl rfl (by first | exact hl.cell 0 rfl rfl | exact hl.cell 1 rfl rfl | exact hl.cell 2 rfl rfl | exact hl.cell 3 rfl rfl | exact hl.cell 4 rfl rfl | exact hl.cell 5 rfl rfl | exact hl.cell 6 rfl rfl | exact hl.cell 7 rfl rfl | exact hl.cell 8 rfl rfl | exact hl.cell 9 rfl rfl) ?_ | (refine o_put1 hl rfl rfl (by conv => lhs; whnf) (by first | exact ⟨rfl, rfl⟩ | exact cell1_str _) rfl (by repeat (first | exact Put.here rfl (by conv => lhs; simp only [List.set_cons_zero, List.set_cons_succ, Nat.reduceAdd, Nat.zero_add]) | refine Put.there ?_)) ?_; clear hl; intro _ hl) | refine o_ix (by omega) rfl rfl rfl rfl rfl ?_ | fail)
      refine wk_ret (retQ_tmp1 Tryd.results19 (by decide) rfl (by conv => lhs; whnf) ?_)
      refine ⟨?_, rfl⟩
      rw [decimal_small h10]
      have : n = 0 ∨ n = 1 ∨ n = 2 ∨ n = 3 ∨ n = 4 ∨ n = 5 ∨ n = 6 ∨ n = 7 ∨ n = 8 ∨ n = 9 := by omega
      rcases this with rfl | rfl | rfl | rfl | rfl | rfl | rfl | rfl | rfl | rfl <;> rfl
    · have h10 : ¬ n < 10 := by omega
      refine o_quo rfl rfl rfl (by omega) (by omega) (wrap_i64 ⟨by omega, by omega⟩) ?_
      rw [show (n : Int) / 10 = ((n / 10 : Nat) : Int) by omega]
      refine o_fn (ih (n / 10) (by omega) (by omega) _) rfl (fun _ => rfl) rfl ?_
      rintro _ w2 ⟨rfl, rfl⟩
      repeat' (first | refine o_mov rfl (by conv => lhs; whnf) ?_ | refine o_asg rfl (by conv => lhs; whnf) ?_ | refine o_binN rfl rfl rfl rfl (by omega) ?_ | refine o_notd rfl rfl ?_ | refine o_notb rfl rfl ?_ | refine o_nilc rfl rfl ?_ | refine o_fa2 rfl rfl (by conv => lhs; whnf; arg 1; whnf) (by first | (conv => lhs; simp only [Nat.reduceAdd, Nat.zero_add, Nat.add_zero]) | rfl) ?_ | refine o_ext rfl rfl (by conv => lhs; whnf) ?_ | refine o_lenv rfl rfl rfl ?_ | refine o_lens rfl rfl rfl ?_ | refine o_pick_t rfl rfl (by conv => lhs; whnf) ?_ | refine o_pick_f rfl rfl (by conv => lhs; whnf) ?_ | refine o_not rfl ?_ | refine o_nilf rfl rfl ?_ | (refine o_nil (hK _ _ ?_); clear hK K) | refine wk_reg ?_ | refine wk_seq fun K hK => ?_ | (refine wk_skip (hK _ _ ?_); clear hK K) | (refine wk_label (hK _ _ ?_); clear hK K) | refine wk_scope ?_ | refine wk_block ?_ | refine wk_cond_t rfl ?_ | refine wk_cond_f rfl ?_ | (refine wk_exit ?_; (repeat (refine blockK_other rfl ?_)); refine blockK_same ?_; (first | (refine hK _ _ ?_; clear hK K) | (clear hK K; refine hK _ _ ?_; clear hK K) | (clear hK K; clear hK K; refine hK _ _ ?_; clear hK K) | (clear hK K; clear hK K; clear hK K; refine hK _ _ ?_; clear hK K) | (clear hK K; clear hK K; clear hK K; clear hK K; refine hK _ _ ?_; clear hK K) | (clear hK K; clear hK K; clear hK K; clear hK K; clear hK K; refine hK _ _ ?_; clear hK K) | skip)) | (refine o_binT rfl rfl rfl rfl ?_ ?_ <;> intro _) | refine o_load rfl rfl rfl (by first | exact hl.cell 0 rfl rfl | exact hl.cell 1 rfl rfl | exact hl.cell 2 rfl rfl | exact hl.cell 3 rfl rfl | exact hl.cell 4 rfl rfl | exact hl.cell 5 rfl rfl | exact hl.cell 6 rfl rfl | exact hl.cell 7 rfl rfl | exact hl.cell 8 rfl rfl | exact hl.cell 9 rfl rfl) ?_ | (refine o_put1 hl rfl rfl (by conv => lhs; whnf) (by first | exact ⟨rfl, rfl⟩ | exact cell1_str _) rfl (by repeat (first | exact Put.here rfl (by conv => lhs; simp only [List.set_cons_zero, List.set_cons_succ, Nat.reduceAdd, Nat.zero_add]) | refine Put.there ?_)) ?_; clear hl; intro _ hl) | refine o_ix (by omega) rfl rfl rfl rfl rfl ?_ | fail)
      refine o_rem rfl rfl rfl (by omega) (by omega) ?_
      rw [show (n : Int) % 10 = ((n % 10 : Nat) : Int) by omega]
      refine o_fn (ih (n % 10) (by omega) (by omega) _) rfl (fun _ => rfl) rfl ?_
      rintro _ w3 ⟨rfl, rfl⟩
      have h1 := decimal_length (n / 10)
      have h2 := decimal_length (n % 10)
      refine o_cat (a := decimal (n / 10)) (b := decimal (n % 10)) (by omega) rfl rfl rfl ?_
      repeat' (first | refine o_mov rfl (by conv => lhs; whnf) ?_ | refine o_asg rfl (by conv => lhs; whnf) ?_ | refine o_binN rfl rfl rfl rfl (by omega) ?_ | refine o_notd rfl rfl ?_ | refine o_notb rfl rfl ?_ | refine o_nilc rfl rfl ?_ | refine o_fa2 rfl rfl (by conv => lhs; whnf; arg 1; whnf) (by first | (conv => lhs; simp only [Nat.reduceAdd, Nat.zero_add, Nat.add_zero]) | rfl) ?_ | refine o_ext rfl rfl (by conv => lhs; whnf) ?_ | refine o_lenv rfl rfl rfl ?_ | refine o_lens rfl rfl rfl ?_ | refine o_pick_t rfl rfl (by conv => lhs; whnf) ?_ | refine o_pick_f rfl rfl (by conv => lhs; whnf) ?_ | refine o_not rfl ?_ | refine o_nilf rfl rfl ?_ | (refine o_nil (hK _ _ ?_); clear hK K) | refine wk_reg ?_ | refine wk_seq fun K hK => ?_ | (refine wk_skip (hK _ _ ?_); clear hK K) | (refine wk_label (hK _ _ ?_); clear hK K) | refine wk_scope ?_ | refine wk_block ?_ | refine wk_cond_t rfl ?_ | refine wk_cond_f rfl ?_ | (refine wk_exit ?_; (repeat (refine blockK_other rfl ?_)); refine blockK_same ?_; (first | (refine hK _ _ ?_; clear hK K) | (clear hK K; refine hK _ _ ?_; clear hK K) | (clear hK K; clear hK K; refine hK _ _ ?_; clear hK K) | (clear hK K; clear hK K; clear hK K; refine hK _ _ ?_; clear hK K) | (clear hK K; clear hK K; clear hK K; clear hK K; refine hK _ _ ?_; clear hK K) | (clear hK K; clear hK K; clear hK K; clear hK K; clear hK K; refine hK _ _ ?_; clear hK K) | skip)) | (refine o_binT rfl rfl rfl rfl ?_ ?_ <;> intro _) | refine o_load rfl rfl rfl (by first | exact hl.cell 0 rfl rfl | exact hl.cell 1 rfl rfl | exact hl.cell 2 rfl rfl | exact hl.cell 3 rfl rfl | exact hl.cell 4 rfl rfl | exact hl.cell 5 rfl rfl | exact hl.cell 6 rfl rfl | exact hl.cell 7 rfl rfl | exact hl.cell 8 rfl rfl | exact hl.cell 9 rfl rfl) ?_ | (refine o_put1 hl rfl rfl (by conv => lhs; whnf) (by first | exact ⟨rfl, rfl⟩ | exact cell1_str _) rfl (by repeat (first | exact Put.here rfl (by conv => lhs; simp only [List.set_cons_zero, List.set_cons_succ, Nat.reduceAdd, Nat.zero_add]) | refine Put.there ?_)) ?_; clear hl; intro _ hl) | refine o_ix (by omega) rfl rfl rfl rfl rfl ?_ | fail)
      refine wk_ret (retQ_tmp1 Tryd.results19 (by decide) rfl (by conv => lhs; whnf) ?_)
      refine ⟨?_, rfl⟩
      rw [decimal_big h10, decimal_small (n := n % 10) (by omega)]

theorem write_len_take (l : List Tok) (k : Nat) : (write (l.take k)).length ≤ (write l).length := by
  have : write l = write (l.take k) ++ write (l.drop k) := by
    simp only [write]
    rw [← List.flatMap_append, List.take_append_drop]
  rw [this]; simp

theorem written_calls (a : List Tok) (v : Value) (w : World) (hv : Sl w v 4 (toksL a)) (ha : a.length ≤ 9223372036854775806) (hw : (write a).length ≤ 9223372036854775807) :
    Calls Tryd.prog 16 #[v] w (fun e w' => ∃ x, e = .returned x ∧ x = str (write a) ∧ w' = w) := by
  obtain ⟨pa, ca, rfl, -⟩ := hv.shape (toksL_len a) (by omega)
  refine calls_of Tryd.func16 rfl Tryd.ntmps16 rfl ?_
  repeat' (first | refine o_mov rfl (by conv => lhs; whnf) ?_ | refine o_asg rfl (by conv => lhs; whnf) ?_ | refine o_binN rfl rfl rfl rfl (by omega) ?_ | refine o_notd rfl rfl ?_ | refine o_notb rfl rfl ?_ | refine o_nilc rfl rfl ?_ | refine o_fa rfl rfl rfl ?_ | refine o_ext rfl rfl (by conv => lhs; whnf) ?_ | refine o_lenv rfl rfl rfl ?_ | refine o_lens rfl rfl rfl ?_ | refine o_pick_t rfl rfl (by conv => lhs; whnf) ?_ | refine o_pick_f rfl rfl (by conv => lhs; whnf) ?_ | refine o_not rfl ?_ | refine o_nilf rfl rfl ?_ | (refine o_nil (hK _ _ ?_); clear hK K) | refine wk_reg ?_ | refine wk_seq fun K hK => ?_ | (refine wk_skip (hK _ _ ?_); clear hK K) | (refine wk_label (hK _ _ ?_); clear hK K) | refine wk_scope ?_ | refine wk_block ?_ | refine wk_cond_t rfl ?_ | refine wk_cond_f rfl ?_ | (refine wk_exit ?_; (repeat (refine blockK_other rfl ?_)); refine blockK_same ?_; (first | (refine hK _ _ ?_; clear hK K) | (clear hK K; refine hK _ _ ?_; clear hK K) | (clear hK K; clear hK K; refine hK _ _ ?_; clear hK K) | (clear hK K; clear hK K; clear hK K; refine hK _ _ ?_; clear hK K) | (clear hK K; clear hK K; clear hK K; clear hK K; refine hK _ _ ?_; clear hK K) | (clear hK K; clear hK K; clear hK K; clear hK K; clear hK K; refine hK _ _ ?_; clear hK K) | skip)) | (refine o_binT rfl rfl rfl rfl ?_ ?_ <;> intro _))
  refine wk_loopH [] rfl (fun k : Nat => [(0, .slice pa a.length ca), (3, str (write (a.take k))), (4, .int .i64 (k : Int))]) (fun k w' => k ≤ a.length ∧ w' = w) (fun k => a.length - k) 0 ⟨rfl, by simp only [str_eq]; rfl, rfl, trivial⟩ ⟨by omega, rfl⟩ ?_
  rintro k t _ ⟨hk, rfl⟩
  repeat' (first | refine o_mov rfl (by conv => lhs; whnf) ?_ | refine o_asg rfl (by conv => lhs; whnf) ?_ | refine o_binN rfl rfl rfl rfl (by omega) ?_ | refine o_notd rfl rfl ?_ | refine o_notb rfl rfl ?_ | refine o_nilc rfl rfl ?_ | refine o_fa rfl rfl rfl ?_ | refine o_ext rfl rfl (by conv => lhs; whnf) ?_ | refine o_lenv rfl rfl rfl ?_ | refine o_lens rfl rfl rfl ?_ | refine o_pick_t rfl rfl (by conv => lhs; whnf) ?_ | refine o_pick_f rfl rfl (by conv => lhs; whnf) ?_ | refine o_not rfl ?_ | refine o_nilf rfl rfl ?_ | (refine o_nil (hK _ _ ?_); clear hK K) | refine wk_reg ?_ | refine wk_seq fun K hK => ?_ | (refine wk_skip (hK _ _ ?_); clear hK K) | (refine wk_label (hK _ _ ?_); clear hK K) | refine wk_scope ?_ | refine wk_block ?_ | refine wk_cond_t rfl ?_ | refine wk_cond_f rfl ?_ | (refine wk_exit ?_; (repeat (refine blockK_other rfl ?_)); refine blockK_same ?_; (first | (refine hK _ _ ?_; clear hK K) | (clear hK K; refine hK _ _ ?_; clear hK K) | (clear hK K; clear hK K; refine hK _ _ ?_; clear hK K) | (clear hK K; clear hK K; clear hK K; refine hK _ _ ?_; clear hK K) | (clear hK K; clear hK K; clear hK K; clear hK K; refine hK _ _ ?_; clear hK K) | (clear hK K; clear hK K; clear hK K; clear hK K; clear hK K; refine hK _ _ ?_; clear hK K) | skip)) | (refine o_binT rfl rfl rfl rfl ?_ ?_ <;> intro _))
  · have hka : k < a.length := by omega
    obtain ⟨ba, oa, hpa, hra⟩ := hv.at (toksL_len a) (by omega) (by omega)
    have hra := hra.elem tokL_len (k := k) (t := a[k]) (by simp [hka])
    refine o_indexAddr (k := 4) k hpa hka rfl rfl rfl rfl rfl rfl ?_
    refine o_fa2 rfl rfl (by conv => lhs; whnf; arg 1; whnf) (by first | (conv => lhs; simp only [Nat.reduceAdd, Nat.zero_add, Nat.add_zero]) | rfl) ?_
    refine o_load rfl rfl rfl (hra 1 _ rfl) ?_
    have hwl := write_len_take a (k + 1)
    have e1 : write (a.take (k + 1)) = write (a.take k) ++ (a[k].text ++ [32]) := by
      rw [List.take_succ_eq_append_getElem hka]
      simp only [write, List.flatMap_append, List.flatMap_cons, List.flatMap_nil, List.append_nil]
    rw [e1] at hwl
    simp only [List.length_append, List.length_singleton] at hwl
    refine o_cat (a := a[k].text) (b := [32]) (by simp; omega) rfl rfl (by simp only [str_eq]; rfl) ?_
    refine o_cat (a := write (a.take k)) (b := a[k].text ++ [32]) (by simp; omega) rfl rfl rfl ?_
    rw [← e1]
    repeat' (first | refine o_mov rfl (by conv => lhs; whnf) ?_ | refine o_asg rfl (by conv => lhs; whnf) ?_ | refine o_binN rfl rfl rfl rfl (by omega) ?_ | refine o_notd rfl rfl ?_ | refine o_notb rfl rfl ?_ | refine o_nilc rfl rfl ?_ | refine o_fa2 rfl rfl (by conv => lhs; whnf; arg 1; whnf) (by first | (conv => lhs; simp only [Nat.reduceAdd, Nat.zero_add, Nat.add_zero]) | rfl) ?_ | refine o_ext rfl rfl (by conv => lhs; whnf) ?_ | refine o_lenv rfl rfl rfl ?_ | refine o_lens rfl rfl rfl ?_ | refine o_pick_t rfl rfl (by conv => lhs; whnf) ?_ | refine o_pick_f rfl rfl (by conv => lhs; whnf) ?_ | refine o_not rfl ?_ | refine o_nilf rfl rfl ?_ | (refine o_nil (hK _ _ ?_); clear hK K) | refine wk_reg ?_ | refine wk_seq fun K hK => ?_ | (refine wk_skip (hK _ _ ?_); clear hK K) | (refine wk_label (hK _ _ ?_); clear hK K) | refine wk_scope ?_ | refine wk_block ?_ | refine wk_cond_t rfl ?_ | refine wk_cond_f rfl ?_ | (refine wk_exit ?_; (repeat (refine blockK_other rfl ?_)); refine blockK_same ?_; (first | (refine hK _ _ ?_; clear hK K) | (clear hK K; refine hK _ _ ?_; clear hK K) | (clear hK K; clear hK K; refine hK _ _ ?_; clear hK K) | (clear hK K; clear hK K; clear hK K; refine hK _ _ ?_; clear hK K) | (clear hK K; clear hK K; clear hK K; clear hK K; refine hK _ _ ?_; clear hK K) | (clear hK K; clear hK K; clear hK K; clear hK K; clear hK K; refine hK _ _ ?_; clear hK K) | skip)) | (refine o_binT rfl rfl rfl rfl ?_ ?_ <;> intro _) | refine o_load rfl rfl rfl (by first | exact hl.cell 0 rfl rfl | exact hl.cell 1 rfl rfl | exact hl.cell 2 rfl rfl | exact hl.cell 3 rfl rfl | exact hl.cell 4 rfl rfl | exact hl.cell 5 rfl rfl | exact hl.cell 6 rfl rfl | exact hl.cell 7 rfl rfl | exact hl.cell 8 rfl rfl | exact hl.cell 9 rfl rfl) ?_ | (refine o_put1 hl rfl rfl (by conv => lhs; whnf) (by first | exact ⟨rfl, rfl⟩ | exact cell1_str _) rfl (by repeat (first | exact Put.here rfl (by conv => lhs; simp only [List.set_cons_zero, List.set_cons_succ, Nat.reduceAdd, Nat.zero_add]) | refine Put.there ?_)) ?_; clear hl; intro _ hl) | refine o_ix (by omega) rfl rfl rfl rfl rfl ?_ | fail)
    exact o_nil ⟨k + 1, ⟨rfl, rfl, rfl, trivial⟩, rfl, ⟨hka, rfl⟩, by omega⟩
  · have hka : k = a.length := by omega
    refine wk_ret (retQ_tmp1 Tryd.results16 (by decide) rfl (by conv => lhs; whnf) ?_)
    refine ⟨?_, rfl⟩
    rw [hka, List.take_length]
end Go.Proofs
