/-
  Lex.
-/
import Derived.Test.YtjijmehighoonaaDoorE
set_option linter.unusedVariables false
set_option linter.unusedSimpArgs false
set_option linter.unnecessarySimpa false
set_option maxRecDepth 10000
namespace Go.Proofs
open Go Go.Pd Go.Lexs
attribute [local irreducible] OpsL W RetQ OpsQ OpsC

def tokL (t : Tok) : List Value := [.int .i64 (t.kind : Int), str t.text, .int .i64 (t.num : Int), .int .i64 (t.pos : Int)]

theorem gather_app : ∀ (pre : List Lexs.Found) (acc : List Tok) (rest : List Lexs.Found), (∀ x ∈ pre, x.err = 0) → acc.length + pre.length ≤ 5000 → gather acc (pre ++ rest) = gather (acc ++ pre.map (·.tok)) rest
  | [], acc, rest, _, _ => by simp
  | x :: pre, acc, rest, h, hl => by
    have h1 := h x List.mem_cons_self
    simp only [List.length_cons] at hl
    simp only [List.cons_append, gather, h1, ne_eq, not_true_eq_false, if_false]
    rw [if_neg (by omega), gather_app pre (acc ++ [x.tok]) rest (fun y hy => h y (List.mem_cons_of_mem _ hy)) (by simp; omega)]
    simp

/-- What the call of Lex has made, in the midst of its loop. -/
def lexL (text : List UInt8) (r2 r3 r4 o5 bt bc bf D L : Nat) (rec : Loop) (sv : Value) (e off : Int) (ov : Value) : List (Nat × Obj) :=
  [(L, .loop rec), (D, .deferred (some [])), (bf, .cells #[atF bt bc] 68 (0, 0)), (bc, .cells classL.toArray 66 (0, 0)), (bt, .cells #[str text] 9 (0, 0)), (o5, .cells #[ov] 56 (0, 0)),
    (r4, .cells #[.int .i64 off] 3 (0, 0)), (r3, .cells #[.int .i64 e] 29 (0, 0)), (r2, .cells #[sv] 56 (0, 0))]

def toksL (l : List Tok) : List Value := l.flatMap tokL

structure LexJ (text : List UInt8) (r2 r3 r4 o5 bt bc bf D L : Nat) (rec : Loop) (w00 : World) (pre : List Lexs.Found) (w : World) : Prop where
  h : ∃ ov acc, LH w00 (fun _ => False) w (lexL text r2 r3 r4 o5 bt bc bf D L rec (.slice none 0 0) 0 0 ov ++ acc) ∧ Acc ov 4 60 pre.length (toksL (pre.map (·.tok))) acc
  err : ∀ x ∈ pre, x.err = 0
  len : pre.length ≤ 5000

def LexS (text : List UInt8) (r2 r3 r4 o5 bt bc bf D L : Nat) (rec : Loop) (w00 w : World) : Prop :=
  ∃ e off ov acc, lex text = .bad e off ∧ LH w00 (fun _ => False) w (lexL text r2 r3 r4 o5 bt bc bf D L { rec with state := .done, pending := some .ret } (.slice none 0 0) e off ov ++ acc)

def LexOut (w' : World) : Res → Value → Prop
  | .ok l, v => ∃ sv, v = .tuple #[sv, .int .i64 0, .int .i64 0] ∧ Sl w' sv 4 (toksL l)
  | .bad e off, v => v = .tuple #[.slice none 0 0, .int .i64 (e : Int), .int .i64 off]

set_option maxHeartbeats 4000000 in
theorem lex_calls (text : List UInt8) (w : World) : Calls Tryd.prog 29 #[str text] w (fun e w' => ∃ v, e = .returned v ∧ Ext w w' ∧ LexOut w' (lex text) v) := by
  refine calls_of Tryd.func29 rfl Tryd.ntmps29 rfl ?_
  repeat (first | refine o_mov rfl (by conv => lhs; whnf) ?_ | refine o_asg rfl (by conv => lhs; whnf) ?_ | refine o_binN rfl rfl rfl rfl (by omega) ?_ | refine o_notd rfl rfl ?_ | refine o_notb rfl rfl ?_ | refine o_nilc rfl rfl ?_ | refine o_fa rfl rfl rfl ?_ | refine o_ext rfl rfl (by conv => lhs; whnf) ?_ | refine o_lenv rfl rfl rfl ?_ | refine o_lens rfl rfl rfl ?_ | refine o_pick_t rfl rfl (by conv => lhs; whnf) ?_ | refine o_pick_f rfl rfl (by conv => lhs; whnf) ?_ | refine o_not rfl ?_ | refine o_nilf rfl rfl ?_ | (refine o_nil (hK _ _ ?_); clear hK K) | refine wk_reg ?_ | refine wk_seq fun K hK => ?_ | (refine wk_skip (hK _ _ ?_); clear hK K) | (refine wk_label (hK _ _ ?_); clear hK K) | refine wk_scope ?_ | refine wk_block ?_ | refine wk_cond_t rfl ?_ | refine wk_cond_f rfl ?_)
  refine o_alloc (LH.start w (fun _ => False)) [.slice none 0 0] rfl rfl ?_
  intro r2 w1 hr2 hl
  refine o_alloc hl [.int .i64 0] rfl rfl ?_
  clear hl
  intro r3 w2 hr3 hl
  refine o_alloc hl [.int .i64 0] rfl rfl ?_
  clear hl
  intro r4 w3 hr4 hl
  repeat' (first | refine o_mov rfl (by conv => lhs; whnf) ?_ | refine o_asg rfl (by conv => lhs; whnf) ?_ | refine o_binN rfl rfl rfl rfl (by omega) ?_ | refine o_notd rfl rfl ?_ | refine o_notb rfl rfl ?_ | refine o_nilc rfl rfl ?_ | refine o_fa rfl rfl rfl ?_ | refine o_ext rfl rfl (by conv => lhs; whnf) ?_ | refine o_lenv rfl rfl rfl ?_ | refine o_lens rfl rfl rfl ?_ | refine o_pick_t rfl rfl (by conv => lhs; whnf) ?_ | refine o_pick_f rfl rfl (by conv => lhs; whnf) ?_ | refine o_not rfl ?_ | refine o_nilf rfl rfl ?_ | (refine o_nil (hK _ _ ?_); clear hK K) | refine wk_reg ?_ | refine wk_seq fun K hK => ?_ | (refine wk_skip (hK _ _ ?_); clear hK K) | (refine wk_label (hK _ _ ?_); clear hK K) | refine wk_scope ?_ | refine wk_block ?_ | refine wk_cond_t rfl ?_ | refine wk_cond_f rfl ?_ | (refine wk_exit ?_; (repeat (refine blockK_other rfl ?_)); refine blockK_same ?_; (first | (refine hK _ _ ?_; clear hK K) | (clear hK K; refine hK _ _ ?_; clear hK K) | (clear hK K; clear hK K; refine hK _ _ ?_; clear hK K) | (clear hK K; clear hK K; clear hK K; refine hK _ _ ?_; clear hK K) | (clear hK K; clear hK K; clear hK K; clear hK K; refine hK _ _ ?_; clear hK K) | (clear hK K; clear hK K; clear hK K; clear hK K; clear hK K; refine hK _ _ ?_; clear hK K) | skip)) | (refine o_binT rfl rfl rfl rfl ?_ ?_ <;> intro _))
  · refine o_store hl 2 [.slice none 0 0] rfl rfl rfl rfl rfl (by simp) rfl ?_
    clear hl
    intro w4 hl
    refine o_store hl 1 [.int .i64 2] rfl rfl rfl rfl rfl (by simp) rfl ?_
    clear hl
    intro w5 hl
    refine o_store hl 0 [.int .i64 (-1)] rfl rfl rfl rfl rfl (by simp) rfl ?_
    clear hl
    intro w6 hl
    have hl : LH w (fun _ => False) w6 [(r4, .cells #[.int .i64 (-1)] 3 (0, 0)), (r3, .cells #[.int .i64 2] 29 (0, 0)), (r2, .cells #[.slice none 0 0] 56 (0, 0))] := hl
    repeat' (first | refine o_mov rfl (by conv => lhs; whnf) ?_ | refine o_asg rfl (by conv => lhs; whnf) ?_ | refine o_binN rfl rfl rfl rfl (by omega) ?_ | refine o_notd rfl rfl ?_ | refine o_notb rfl rfl ?_ | refine o_nilc rfl rfl ?_ | refine o_fa rfl rfl rfl ?_ | refine o_ext rfl rfl (by conv => lhs; whnf) ?_ | refine o_lenv rfl rfl rfl ?_ | refine o_lens rfl rfl rfl ?_ | refine o_pick_t rfl rfl (by conv => lhs; whnf) ?_ | refine o_pick_f rfl rfl (by conv => lhs; whnf) ?_ | refine o_not rfl ?_ | refine o_nilf rfl rfl ?_ | (refine o_nil (hK _ _ ?_); clear hK K) | refine wk_reg ?_ | refine wk_seq fun K hK => ?_ | (refine wk_skip (hK _ _ ?_); clear hK K) | (refine wk_label (hK _ _ ?_); clear hK K) | refine wk_scope ?_ | refine wk_block ?_ | refine wk_cond_t rfl ?_ | refine wk_cond_f rfl ?_ | (refine wk_exit ?_; (repeat (refine blockK_other rfl ?_)); refine blockK_same ?_; (first | (refine hK _ _ ?_; clear hK K) | (clear hK K; refine hK _ _ ?_; clear hK K) | (clear hK K; clear hK K; refine hK _ _ ?_; clear hK K) | (clear hK K; clear hK K; clear hK K; refine hK _ _ ?_; clear hK K) | (clear hK K; clear hK K; clear hK K; clear hK K; refine hK _ _ ?_; clear hK K) | (clear hK K; clear hK K; clear hK K; clear hK K; clear hK K; refine hK _ _ ?_; clear hK K) | skip)) | (refine o_binT rfl rfl rfl rfl ?_ ?_ <;> intro _))
    refine wk_ret (retQ_res [.slice none 0 0, .int .i64 2, .int .i64 (-1)] rfl rfl ⟨by decide, ⟨⟨r2, 0, none⟩, rfl, run_loadVar1 rfl (hl.cell 2 rfl rfl)⟩, by decide, ⟨⟨r3, 0, none⟩, rfl, run_loadVar1 rfl (hl.cell 1 rfl rfl)⟩, by decide, ⟨⟨r4, 0, none⟩, rfl, run_loadVar1 rfl (hl.cell 0 rfl rfl)⟩, trivial⟩ ⟨hl.done, ?_⟩)
    have : lex text = .bad 2 (-1) := by unfold lex; rw [if_pos (by omega)]
    rw [this]; rfl
  have hlen : text.length ≤ 20000 := by omega
  refine o_alloc hl [.slice none 0 0] rfl rfl ?_
  clear hl
  intro o5 w4 ho5 hl
  repeat' (first | refine o_mov rfl (by conv => lhs; whnf) ?_ | refine o_asg rfl (by conv => lhs; whnf) ?_ | refine o_binN rfl rfl rfl rfl (by omega) ?_ | refine o_notd rfl rfl ?_ | refine o_notb rfl rfl ?_ | refine o_nilc rfl rfl ?_ | refine o_fa rfl rfl rfl ?_ | refine o_ext rfl rfl (by conv => lhs; whnf) ?_ | refine o_lenv rfl rfl rfl ?_ | refine o_lens rfl rfl rfl ?_ | refine o_pick_t rfl rfl (by conv => lhs; whnf) ?_ | refine o_pick_f rfl rfl (by conv => lhs; whnf) ?_ | refine o_not rfl ?_ | refine o_nilf rfl rfl ?_ | (refine o_nil (hK _ _ ?_); clear hK K) | refine wk_reg ?_ | refine wk_seq fun K hK => ?_ | (refine wk_skip (hK _ _ ?_); clear hK K) | (refine wk_label (hK _ _ ?_); clear hK K) | refine wk_scope ?_ | refine wk_block ?_ | refine wk_cond_t rfl ?_ | refine wk_cond_f rfl ?_ | (refine wk_exit ?_; (repeat (refine blockK_other rfl ?_)); refine blockK_same ?_; (first | (refine hK _ _ ?_; clear hK K) | (clear hK K; refine hK _ _ ?_; clear hK K) | (clear hK K; clear hK K; refine hK _ _ ?_; clear hK K) | (clear hK K; clear hK K; clear hK K; refine hK _ _ ?_; clear hK K) | (clear hK K; clear hK K; clear hK K; clear hK K; refine hK _ _ ?_; clear hK K) | (clear hK K; clear hK K; clear hK K; clear hK K; clear hK K; refine hK _ _ ?_; clear hK K) | skip)) | (refine o_binT rfl rfl rfl rfl ?_ ?_ <;> intro _))
  refine o_fn (tokens_calls text w4) rfl (fun _ => rfl) rfl ?_
  rintro _ w5 ⟨bt, bc, bf, rfl, hl5⟩
  replace hl := hl.join hl5
  clear hl5
  repeat' (first | refine o_mov rfl (by conv => lhs; whnf) ?_ | refine o_asg rfl (by conv => lhs; whnf) ?_ | refine o_binN rfl rfl rfl rfl (by omega) ?_ | refine o_notd rfl rfl ?_ | refine o_notb rfl rfl ?_ | refine o_nilc rfl rfl ?_ | refine o_fa rfl rfl rfl ?_ | refine o_ext rfl rfl (by conv => lhs; whnf) ?_ | refine o_lenv rfl rfl rfl ?_ | refine o_lens rfl rfl rfl ?_ | refine o_pick_t rfl rfl (by conv => lhs; whnf) ?_ | refine o_pick_f rfl rfl (by conv => lhs; whnf) ?_ | refine o_not rfl ?_ | refine o_nilf rfl rfl ?_ | (refine o_nil (hK _ _ ?_); clear hK K) | refine wk_reg ?_ | refine wk_seq fun K hK => ?_ | (refine wk_skip (hK _ _ ?_); clear hK K) | (refine wk_label (hK _ _ ?_); clear hK K) | refine wk_scope ?_ | refine wk_block ?_ | refine wk_cond_t rfl ?_ | refine wk_cond_f rfl ?_ | (refine wk_exit ?_; (repeat (refine blockK_other rfl ?_)); refine blockK_same ?_; (first | (refine hK _ _ ?_; clear hK K) | (clear hK K; refine hK _ _ ?_; clear hK K) | (clear hK K; clear hK K; refine hK _ _ ?_; clear hK K) | (clear hK K; clear hK K; clear hK K; refine hK _ _ ?_; clear hK K) | (clear hK K; clear hK K; clear hK K; clear hK K; refine hK _ _ ?_; clear hK K) | (clear hK K; clear hK K; clear hK K; clear hK K; clear hK K; refine hK _ _ ?_; clear hK K) | skip)) | (refine o_binT rfl rfl rfl rfl ?_ ?_ <;> intro _))
  refine wk_rangeFunc rfl (fun _ _ => rfl) ?_
  intro fn tm w6 hfits hheap
  generalize hD : w5.heap.size = D at hheap ⊢
  generalize hrec : Loop.mk _ _ _ _ _ _ _ _ = rec at hheap
  have hl6 : LH w (fun _ => False) w6 (lexL text r2 r3 r4 o5 bt bc bf D (D + 1) rec (.slice none 0 0) 0 0 (.slice none 0 0) ++ []) := by
    have h1 := ((hl.alloc (.deferred (some []))).alloc (.loop rec)).heap hheap
    simp only [Array.size_push] at h1
    rw [hD] at h1
    exact h1
  clear hl hheap
  refine Calls.mono (tokens2_calls text hlen (.func (.yield (D + 1)) #[] #[]) bt bf bc (LexJ text r2 r3 r4 o5 bt bc bf D (D + 1) rec w) (LexS text r2 r3 r4 o5 bt bc bf D (D + 1) rec w) ?_ ?_ ?_ w6 ⟨⟨_, _, hl6, Acc.nil _ _⟩, (fun _ h => nomatch h), Nat.zero_le _⟩) ?_
  · rintro pre wa ⟨⟨ov, acc, h, ha⟩, he, hle⟩
    refine ⟨h.cell 4 rfl rfl, h.cell 2 rfl rfl, ?_⟩
    have := h.rowL (vs := classL) 3 0 256 rfl
    rwa [List.drop_zero, List.take_of_length_le (by rw [classL_len]; exact Nat.le_refl _)] at this
  · rintro pre wa wb ⟨⟨ov, acc, h, ha⟩, he, hle⟩ hx
    exact ⟨⟨ov, acc, h.ext hx, ha⟩, he, hle⟩
  · rintro pre x rest wa wb hall ⟨⟨ov, acc, h, ha⟩, he, hle⟩ hx
    have hb := h.rebase hx
    refine callV_round (n := 35) (hb.get 0 rfl) (congrArg Loop.params hrec.symm) (congrArg Loop.assign hrec.symm) (congrArg Loop.body hrec.symm) rfl (by rw [show rec.tmps = tm from congrArg Loop.tmps hrec.symm]; exact hfits) ?_
    have hready : rec.state = .ready := congrArg Loop.state hrec.symm
    have hpend : rec.pending = none := congrArg Loop.pending hrec.symm
    clear hl6 hfits hrec
    dsimp only
    repeat (first | refine o_mov rfl (by conv => lhs; whnf) ?_ | refine o_asg rfl (by conv => lhs; whnf) ?_ | refine o_binN rfl rfl rfl rfl (by omega) ?_ | refine o_notd rfl rfl ?_ | refine o_notb rfl rfl ?_ | refine o_nilc rfl rfl ?_ | refine o_fa rfl rfl rfl ?_ | refine o_ext rfl rfl (by conv => lhs; whnf) ?_ | refine o_lenv rfl rfl rfl ?_ | refine o_lens rfl rfl rfl ?_ | refine o_pick_t rfl rfl (by conv => lhs; whnf) ?_ | refine o_pick_f rfl rfl (by conv => lhs; whnf) ?_ | refine o_not rfl ?_ | refine o_nilf rfl rfl ?_ | (refine o_nil (hK _ _ ?_); clear hK K) | refine wk_reg ?_ | refine wk_seq fun K hK => ?_ | (refine wk_skip (hK _ _ ?_); clear hK K) | (refine wk_label (hK _ _ ?_); clear hK K) | refine wk_scope ?_ | refine wk_block ?_ | refine wk_cond_t rfl ?_ | refine wk_cond_f rfl ?_)
    refine o_alloc hb [.int .i64 0, .string ⟨#[]⟩, .int .i64 0, .int .i64 0, .int .i64 0] rfl rfl ?_
    intro f wc hf hl
    clear hb
    refine o_store hl 0 (foundL x) rfl rfl rfl rfl rfl (by simp [foundL]) (by simp only [foundL, str_eq]; rfl) ?_
    clear hl
    intro wd hl
    refine o_nil ⟨_, hl.get 1 rfl, hready, ?_⟩
    intro we hwe
    replace hl := hl.put 1 rfl hwe
    obtain ⟨a0, c0, hov⟩ := ha.shape
    subst hov
    have hl : LH _ _ _ ((f, .cells (foundL x).toArray 65 (0, 0)) :: (lexL text r2 r3 r4 o5 bt bc bf D (D + 1) { rec with state := .busy } (.slice none 0 0) 0 0 (.slice a0 pre.length c0) ++ acc)) := hl
    have hlex : lex text = gather (pre.map (·.tok)) (x :: rest) := by
      unfold lex
      rw [if_neg (by omega), hall, gather_app pre [] _ he (by simpa using hle), List.nil_append]
    repeat' (first | refine o_mov rfl (by conv => lhs; whnf) ?_ | refine o_asg rfl (by conv => lhs; whnf) ?_ | refine o_binN rfl rfl rfl rfl (by omega) ?_ | refine o_notd rfl rfl ?_ | refine o_notb rfl rfl ?_ | refine o_nilc rfl rfl ?_ | refine o_fa rfl rfl rfl ?_ | refine o_ext rfl rfl (by conv => lhs; whnf) ?_ | refine o_lenv rfl rfl rfl ?_ | refine o_lens rfl rfl rfl ?_ | refine o_pick_t rfl rfl (by conv => lhs; whnf) ?_ | refine o_pick_f rfl rfl (by conv => lhs; whnf) ?_ | refine o_not rfl ?_ | refine o_nilf rfl rfl ?_ | (refine o_nil (hK _ _ ?_); clear hK K) | refine wk_reg ?_ | refine wk_seq fun K hK => ?_ | (refine wk_skip (hK _ _ ?_); clear hK K) | (refine wk_label (hK _ _ ?_); clear hK K) | refine wk_scope ?_ | refine wk_block ?_ | refine wk_cond_t rfl ?_ | refine wk_cond_f rfl ?_ | (refine wk_exit ?_; (repeat (refine blockK_other rfl ?_)); refine blockK_same ?_; (first | (refine hK _ _ ?_; clear hK K) | (clear hK K; refine hK _ _ ?_; clear hK K) | (clear hK K; clear hK K; refine hK _ _ ?_; clear hK K) | (clear hK K; clear hK K; clear hK K; refine hK _ _ ?_; clear hK K) | (clear hK K; clear hK K; clear hK K; clear hK K; refine hK _ _ ?_; clear hK K) | (clear hK K; clear hK K; clear hK K; clear hK K; clear hK K; refine hK _ _ ?_; clear hK K) | skip)) | (refine o_binT rfl rfl rfl rfl ?_ ?_ <;> intro _))
    refine o_load rfl rfl rfl (hl.cell 0 rfl rfl) ?_
    repeat' (first | refine o_mov rfl (by conv => lhs; whnf) ?_ | refine o_asg rfl (by conv => lhs; whnf) ?_ | refine o_binN rfl rfl rfl rfl (by omega) ?_ | refine o_notd rfl rfl ?_ | refine o_notb rfl rfl ?_ | refine o_nilc rfl rfl ?_ | refine o_fa rfl rfl rfl ?_ | refine o_ext rfl rfl (by conv => lhs; whnf) ?_ | refine o_lenv rfl rfl rfl ?_ | refine o_lens rfl rfl rfl ?_ | refine o_pick_t rfl rfl (by conv => lhs; whnf) ?_ | refine o_pick_f rfl rfl (by conv => lhs; whnf) ?_ | refine o_not rfl ?_ | refine o_nilf rfl rfl ?_ | (refine o_nil (hK _ _ ?_); clear hK K) | refine wk_reg ?_ | refine wk_seq fun K hK => ?_ | (refine wk_skip (hK _ _ ?_); clear hK K) | (refine wk_label (hK _ _ ?_); clear hK K) | refine wk_scope ?_ | refine wk_block ?_ | refine wk_cond_t rfl ?_ | refine wk_cond_f rfl ?_ | (refine wk_exit ?_; (repeat (refine blockK_other rfl ?_)); refine blockK_same ?_; (first | (refine hK _ _ ?_; clear hK K) | (clear hK K; refine hK _ _ ?_; clear hK K) | (clear hK K; clear hK K; refine hK _ _ ?_; clear hK K) | (clear hK K; clear hK K; clear hK K; refine hK _ _ ?_; clear hK K) | (clear hK K; clear hK K; clear hK K; clear hK K; refine hK _ _ ?_; clear hK K) | (clear hK K; clear hK K; clear hK K; clear hK K; clear hK K; refine hK _ _ ?_; clear hK K) | skip)) | (refine o_binT rfl rfl rfl rfl ?_ ?_ <;> intro _))
    · refine wk_draw [0, 1, 2, 3, 4] [1, 4] [5, 6, 7] (fun w' => To we w' we.heap) (fun w' => w'.heap[f]? = some (.cells (foundL x).toArray 65 (0, 0))) rfl (by kernel_rfl) (fun _ _ _ _ h => h) (fun _ h => h) (fun w' h => by rw [h.1]; exact hl.get 0 rfl) ?_
      refine q_pur rfl rfl rfl (fun _ => r_fa rfl rfl) ?_
      refine q_late rfl rfl rfl rfl (fun w' hw' => r_load rfl rfl (cell_of_block hw' rfl)) ?_
      refine q_pur rfl rfl rfl (fun _ => r_fa rfl rfl) ?_
      refine q_pur rfl rfl rfl (fun _ => r_fa rfl rfl) ?_
      refine q_late rfl rfl rfl rfl (fun w' hw' => r_load rfl rfl (cell_of_block hw' rfl)) ?_
      refine q_nil ?_
      intro wf hwf
      replace hl := hl.heap hwf
      refine ops_tail rfl rfl ?_
      refine o_store hl 9 [.slice none 0 0] rfl rfl rfl rfl rfl (by simp) rfl ?_
      clear hl
      intro wg hl
      refine o_nil ⟨hl.get 0 rfl, ?_⟩
      refine ops_tail rfl rfl ?_
      refine o_store hl 8 [.int .i64 (x.err : Int)] rfl rfl rfl rfl rfl (by simp) rfl ?_
      clear hl
      intro wh hl
      refine o_nil ⟨hl.get 0 rfl, ?_⟩
      refine ops_tail rfl rfl ?_
      refine o_store hl 7 [.int .i64 (x.tok.pos : Int)] rfl rfl rfl rfl rfl (by simp) rfl ?_
      clear hl
      intro wi hl
      refine o_nil ⟨hl.get 0 rfl, ?_⟩
      refine ops_nil (hK _ _ ?_)
      clear hK K
      refine wk_ret ⟨_, hl.get 1 rfl, fun w' hw' => .inr ⟨rfl, ?_⟩⟩
      replace hl := hl.put 1 rfl hw'
      have hl : LH _ _ _ ((f, .cells (foundL x).toArray 65 (0, 0)) :: (lexL text r2 r3 r4 o5 bt bc bf D (D + 1) { rec with state := .done, pending := some .ret } (.slice none 0 0) (x.err : Int) (x.tok.pos : Int) (.slice a0 pre.length c0) ++ acc)) := hl
      refine ⟨x.err, (x.tok.pos : Int), _, acc, ?_, h.back hx (hl.sub (List.sublist_cons_self _ _))⟩
      rw [hlex]
      have : x.err ≠ 0 := by omega
      simp only [gather, if_pos this]
    have hx0 : x.err = 0 := by omega
    refine o_load rfl rfl rfl (hl.cell 6 rfl rfl) ?_
    repeat' (first | refine o_mov rfl (by conv => lhs; whnf) ?_ | refine o_asg rfl (by conv => lhs; whnf) ?_ | refine o_binN rfl rfl rfl rfl (by omega) ?_ | refine o_notd rfl rfl ?_ | refine o_notb rfl rfl ?_ | refine o_nilc rfl rfl ?_ | refine o_fa rfl rfl rfl ?_ | refine o_ext rfl rfl (by conv => lhs; whnf) ?_ | refine o_lenv rfl rfl rfl ?_ | refine o_lens rfl rfl rfl ?_ | refine o_pick_t rfl rfl (by conv => lhs; whnf) ?_ | refine o_pick_f rfl rfl (by conv => lhs; whnf) ?_ | refine o_not rfl ?_ | refine o_nilf rfl rfl ?_ | (refine o_nil (hK _ _ ?_); clear hK K) | refine wk_reg ?_ | refine wk_seq fun K hK => ?_ | (refine wk_skip (hK _ _ ?_); clear hK K) | (refine wk_label (hK _ _ ?_); clear hK K) | refine wk_scope ?_ | refine wk_block ?_ | refine wk_cond_t rfl ?_ | refine wk_cond_f rfl ?_ | (refine wk_exit ?_; (repeat (refine blockK_other rfl ?_)); refine blockK_same ?_; (first | (refine hK _ _ ?_; clear hK K) | (clear hK K; refine hK _ _ ?_; clear hK K) | (clear hK K; clear hK K; refine hK _ _ ?_; clear hK K) | (clear hK K; clear hK K; clear hK K; refine hK _ _ ?_; clear hK K) | (clear hK K; clear hK K; clear hK K; clear hK K; refine hK _ _ ?_; clear hK K) | (clear hK K; clear hK K; clear hK K; clear hK K; clear hK K; refine hK _ _ ?_; clear hK K) | skip)) | (refine o_binT rfl rfl rfl rfl ?_ ?_ <;> intro _))
    · refine wk_draw [0, 1, 2] [2] [3, 4, 5] (fun w' => To we w' we.heap) (fun w' => w'.heap[f]? = some (.cells (foundL x).toArray 65 (0, 0))) rfl (by kernel_rfl) (fun _ _ _ _ h => h) (fun _ h => h) (fun w' h => by rw [h.1]; exact hl.get 0 rfl) ?_
      refine q_pur rfl rfl rfl (fun _ => r_fa rfl rfl) ?_
      refine q_pur rfl rfl rfl (fun _ => r_fa rfl rfl) ?_
      refine q_late rfl rfl rfl rfl (fun w' hw' => r_load rfl rfl (cell_of_block hw' rfl)) ?_
      refine q_nil ?_
      intro wf hwf
      replace hl := hl.heap hwf
      refine ops_tail rfl rfl ?_
      refine o_store hl 9 [.slice none 0 0] rfl rfl rfl rfl rfl (by simp) rfl ?_
      clear hl
      intro wg hl
      refine o_nil ⟨hl.get 0 rfl, ?_⟩
      refine ops_tail rfl rfl ?_
      refine o_store hl 8 [.int .i64 2] rfl rfl rfl rfl rfl (by simp) rfl ?_
      clear hl
      intro wh hl
      refine o_nil ⟨hl.get 0 rfl, ?_⟩
      refine ops_tail rfl rfl ?_
      refine o_store hl 7 [.int .i64 (x.tok.pos : Int)] rfl rfl rfl rfl rfl (by simp) rfl ?_
      clear hl
      intro wi hl
      refine o_nil ⟨hl.get 0 rfl, ?_⟩
      refine ops_nil (hK _ _ ?_)
      clear hK K
      refine wk_ret ⟨_, hl.get 1 rfl, fun w' hw' => .inr ⟨rfl, ?_⟩⟩
      replace hl := hl.put 1 rfl hw'
      have hl : LH _ _ _ ((f, .cells (foundL x).toArray 65 (0, 0)) :: (lexL text r2 r3 r4 o5 bt bc bf D (D + 1) { rec with state := .done, pending := some .ret } (.slice none 0 0) 2 (x.tok.pos : Int) (.slice a0 pre.length c0) ++ acc)) := hl
      refine ⟨2, (x.tok.pos : Int), _, acc, ?_, h.back hx (hl.sub (List.sublist_cons_self _ _))⟩
      rw [hlex]
      have h5 : (pre.map (·.tok)).length = 5000 := by rw [List.length_map]; omega
      simp only [gather, hx0, ne_eq, not_true_eq_false, if_false, h5, if_true]
    have h5 : pre.length ≠ 5000 := by omega
    refine o_load rfl rfl rfl (hl.cell 6 rfl rfl) ?_
    repeat' (first | refine o_mov rfl (by conv => lhs; whnf) ?_ | refine o_asg rfl (by conv => lhs; whnf) ?_ | refine o_binN rfl rfl rfl rfl (by omega) ?_ | refine o_notd rfl rfl ?_ | refine o_notb rfl rfl ?_ | refine o_nilc rfl rfl ?_ | refine o_fa rfl rfl rfl ?_ | refine o_ext rfl rfl (by conv => lhs; whnf) ?_ | refine o_lenv rfl rfl rfl ?_ | refine o_lens rfl rfl rfl ?_ | refine o_pick_t rfl rfl (by conv => lhs; whnf) ?_ | refine o_pick_f rfl rfl (by conv => lhs; whnf) ?_ | refine o_not rfl ?_ | refine o_nilf rfl rfl ?_ | (refine o_nil (hK _ _ ?_); clear hK K) | refine wk_reg ?_ | refine wk_seq fun K hK => ?_ | (refine wk_skip (hK _ _ ?_); clear hK K) | (refine wk_label (hK _ _ ?_); clear hK K) | refine wk_scope ?_ | refine wk_block ?_ | refine wk_cond_t rfl ?_ | refine wk_cond_f rfl ?_ | (refine wk_exit ?_; (repeat (refine blockK_other rfl ?_)); refine blockK_same ?_; (first | (refine hK _ _ ?_; clear hK K) | (clear hK K; refine hK _ _ ?_; clear hK K) | (clear hK K; clear hK K; refine hK _ _ ?_; clear hK K) | (clear hK K; clear hK K; clear hK K; refine hK _ _ ?_; clear hK K) | (clear hK K; clear hK K; clear hK K; clear hK K; refine hK _ _ ?_; clear hK K) | (clear hK K; clear hK K; clear hK K; clear hK K; clear hK K; refine hK _ _ ?_; clear hK K) | skip)) | (refine o_binT rfl rfl rfl rfl ?_ ?_ <;> intro _))
    refine o_loadN (vs := tokL x.tok) rfl rfl rfl rfl (hl.rowL (vs := foundL x) 0 0 4 rfl) ?_
    refine o_buildSlice hl (tokL x.tok) rfl rfl (by simp only [tokL, str_eq]; kernel_rfl) ?_
    intro b wf hb hl2
    have hone : (tokL x.tok).all Value.oneCell' = true := by simp only [tokL, str_eq]; rfl
    refine o_append (bl' := (b, .cells (tokL x.tok).toArray 60 (0, 0)) :: (f, .cells (foundL x).toArray 65 (0, 0)) :: lexL text r2 r3 r4 o5 bt bc bf D (D + 1) { rec with state := .busy } (.slice none 0 0) 0 0 (.slice a0 pre.length c0)) (q := 1) (bytes := 40) (us := tokL x.tok) hl2 ha (hl2.rowL (vs := tokL x.tok) 0 0 4 rfl) rfl hone (by omega) (by omega) (by omega) rfl rfl rfl rfl rfl ?_
    clear hl hl2
    intro v' wg acc' hl ha'
    obtain ⟨a1, c1, hv1⟩ := ha'.shape
    subst hv1
    refine o_store hl 7 [.slice a1 (pre.length + 1) c1] rfl rfl rfl rfl rfl (by simp) rfl ?_
    clear hl
    intro wh hl
    refine o_nil ⟨_, hl.get 2 rfl, fun w' hw' => .inl ⟨rfl, ?_⟩⟩
    replace hl := hl.put 2 rfl hw'
    have hl : LH _ _ _ ((b, .cells (tokL x.tok).toArray 60 (0, 0)) :: (f, .cells (foundL x).toArray 65 (0, 0)) :: (lexL text r2 r3 r4 o5 bt bc bf D (D + 1) { rec with state := .ready, pending := none } (.slice none 0 0) 0 0 (.slice a1 (pre.length + 1) c1) ++ acc')) := hl
    have hrr : ({ rec with state := .ready, pending := none } : Loop) = rec := by
      cases rec
      simp only at hready hpend
      rw [hready, hpend]
    rw [hrr] at hl
    refine ⟨⟨⟨_, acc', h.back hx (hl.sub ((List.sublist_cons_self _ _).trans (List.sublist_cons_self _ _))), ?_⟩, ?_, ?_⟩, h.frame hl⟩
    · have e1 : (pre ++ [x]).length = pre.length + 1 := by simp
      have e2 : toksL ((pre ++ [x]).map (·.tok)) = toksL (pre.map (·.tok)) ++ tokL x.tok := by simp [toksL]
      rw [e1, e2]; exact ha'
    · intro y hy
      rcases List.mem_append.1 hy with hy | hy
      · exact he y hy
      · rw [List.mem_singleton.1 hy]; exact hx0
    · simp; omega
  · rintro e w3 ⟨v, rfl, hJS⟩
    refine ⟨v, rfl, ?_⟩
    rcases hJS with ⟨⟨ov, acc, h, ha⟩, he, hle⟩ | ⟨e, off, ov, acc, hlex, h⟩
    · refine ⟨rec, h.get 0 rfl, by rw [← hrec]; exact fun h => (nomatch h), ?_⟩
      intro w7 hw7
      have hp : rec.pending = none := by rw [← hrec]
      rw [hp]
      dsimp only
      refine hK _ _ ?_
      clear hK K
      replace h := h.put 0 rfl hw7
      obtain ⟨a0, c0, hov⟩ := ha.shape
      subst hov
      repeat' (first | refine o_mov rfl (by conv => lhs; whnf) ?_ | refine o_asg rfl (by conv => lhs; whnf) ?_ | refine o_binN rfl rfl rfl rfl (by omega) ?_ | refine o_notd rfl rfl ?_ | refine o_notb rfl rfl ?_ | refine o_nilc rfl rfl ?_ | refine o_fa rfl rfl rfl ?_ | refine o_ext rfl rfl (by conv => lhs; whnf) ?_ | refine o_lenv rfl rfl rfl ?_ | refine o_lens rfl rfl rfl ?_ | refine o_pick_t rfl rfl (by conv => lhs; whnf) ?_ | refine o_pick_f rfl rfl (by conv => lhs; whnf) ?_ | refine o_not rfl ?_ | refine o_nilf rfl rfl ?_ | (refine o_nil (hK _ _ ?_); clear hK K) | refine wk_reg ?_ | refine wk_seq fun K hK => ?_ | (refine wk_skip (hK _ _ ?_); clear hK K) | (refine wk_label (hK _ _ ?_); clear hK K) | refine wk_scope ?_ | refine wk_block ?_ | refine wk_cond_t rfl ?_ | refine wk_cond_f rfl ?_ | (refine wk_exit ?_; (repeat (refine blockK_other rfl ?_)); refine blockK_same ?_; (first | (refine hK _ _ ?_; clear hK K) | (clear hK K; refine hK _ _ ?_; clear hK K) | (clear hK K; clear hK K; refine hK _ _ ?_; clear hK K) | (clear hK K; clear hK K; clear hK K; refine hK _ _ ?_; clear hK K) | (clear hK K; clear hK K; clear hK K; clear hK K; refine hK _ _ ?_; clear hK K) | (clear hK K; clear hK K; clear hK K; clear hK K; clear hK K; refine hK _ _ ?_; clear hK K) | skip)) | (refine o_binT rfl rfl rfl rfl ?_ ?_ <;> intro _))
      refine o_load rfl rfl rfl (h.cell 5 rfl rfl) ?_
      refine o_store h 8 [.slice a0 _ c0] rfl rfl rfl rfl rfl (by simp) rfl ?_
      clear h
      intro w8 h
      refine o_store h 7 [.int .i64 0] rfl rfl rfl rfl rfl (by simp) rfl ?_
      clear h
      intro w9 h
      refine o_store h 6 [.int .i64 0] rfl rfl rfl rfl rfl (by simp) rfl ?_
      clear h
      intro w10 h
      repeat' (first | refine o_mov rfl (by conv => lhs; whnf) ?_ | refine o_asg rfl (by conv => lhs; whnf) ?_ | refine o_binN rfl rfl rfl rfl (by omega) ?_ | refine o_notd rfl rfl ?_ | refine o_notb rfl rfl ?_ | refine o_nilc rfl rfl ?_ | refine o_fa rfl rfl rfl ?_ | refine o_ext rfl rfl (by conv => lhs; whnf) ?_ | refine o_lenv rfl rfl rfl ?_ | refine o_lens rfl rfl rfl ?_ | refine o_pick_t rfl rfl (by conv => lhs; whnf) ?_ | refine o_pick_f rfl rfl (by conv => lhs; whnf) ?_ | refine o_not rfl ?_ | refine o_nilf rfl rfl ?_ | (refine o_nil (hK _ _ ?_); clear hK K) | refine wk_reg ?_ | refine wk_seq fun K hK => ?_ | (refine wk_skip (hK _ _ ?_); clear hK K) | (refine wk_label (hK _ _ ?_); clear hK K) | refine wk_scope ?_ | refine wk_block ?_ | refine wk_cond_t rfl ?_ | refine wk_cond_f rfl ?_ | (refine wk_exit ?_; (repeat (refine blockK_other rfl ?_)); refine blockK_same ?_; (first | (refine hK _ _ ?_; clear hK K) | (clear hK K; refine hK _ _ ?_; clear hK K) | (clear hK K; clear hK K; refine hK _ _ ?_; clear hK K) | (clear hK K; clear hK K; clear hK K; refine hK _ _ ?_; clear hK K) | (clear hK K; clear hK K; clear hK K; clear hK K; refine hK _ _ ?_; clear hK K) | (clear hK K; clear hK K; clear hK K; clear hK K; clear hK K; refine hK _ _ ?_; clear hK K) | skip)) | (refine o_binT rfl rfl rfl rfl ?_ ?_ <;> intro _))
      refine wk_ret (retQ_res1 [.slice a0 (founds text.length 0 text).length c0, .int .i64 0, .int .i64 0] rfl rfl (h.get 1 rfl) ?_)
      intro w11 hw11
      replace h := h.put 1 rfl hw11
      refine ⟨⟨by decide, ⟨⟨r2, 0, none⟩, rfl, run_loadVar1 rfl (h.cell 8 rfl rfl)⟩, by decide, ⟨⟨r3, 0, none⟩, rfl, run_loadVar1 rfl (h.cell 7 rfl rfl)⟩, by decide, ⟨⟨r4, 0, none⟩, rfl, run_loadVar1 rfl (h.cell 6 rfl rfl)⟩, trivial⟩, h.done, ?_⟩
      have hlex : lex text = .ok ((founds text.length 0 text).map (·.tok)) := by
        unfold lex
        rw [if_neg (by omega)]
        have := gather_app (founds text.length 0 text) [] [] he (by simpa using hle)
        rw [List.append_nil, List.nil_append] at this
        rw [this]; rfl
      rw [hlex]
      have hl : LH w (fun _ => False) w11 (([_, _, _, _, _, _, _, _, _] : List (Nat × Obj)) ++ acc) := h
      exact ⟨_, rfl, hl.acc_sl ha⟩
    · refine ⟨_, h.get 0 rfl, fun h => (nomatch h), ?_⟩
      intro w7 hw7
      dsimp only
      replace h := h.put 0 rfl hw7
      refine wk_ret (retQ_res1 [.slice none 0 0, .int .i64 (e : Int), .int .i64 off] rfl rfl (h.get 1 rfl) ?_)
      intro w11 hw11
      replace h := h.put 1 rfl hw11
      refine ⟨⟨by decide, ⟨⟨r2, 0, none⟩, rfl, run_loadVar1 rfl (h.cell 8 rfl rfl)⟩, by decide, ⟨⟨r3, 0, none⟩, rfl, run_loadVar1 rfl (h.cell 7 rfl rfl)⟩, by decide, ⟨⟨r4, 0, none⟩, rfl, run_loadVar1 rfl (h.cell 6 rfl rfl)⟩, trivial⟩, h.done, ?_⟩
      rw [hlex]
      rfl
end Go.Proofs
