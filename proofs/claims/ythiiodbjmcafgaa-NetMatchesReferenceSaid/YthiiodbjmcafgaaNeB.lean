/-
  A network: what a node has of a list left out (slices.DeleteFunc).
-/
import Derived.Test.YthiiodbjmcafgaaNeA
import Derived.Lib.SliceRun
set_option linter.unusedVariables false
set_option linter.unusedSimpArgs false
set_option linter.unnecessarySimpa false
set_option maxRecDepth 10000
namespace Go.Pd
variable {P : Program} {r : Option Nat} {n : Nat}
section
variable {ops : Array Oper} {K : St → World → Prop} {X : List PanicEntry → St → World → Prop} {l : List Oper} {s : St} {w w0 : World} {M : Nat → Prop} {bl : List (Nat × Obj)}
variable {d : Nat} {ty : TypeId} {p : String} {af : Array Edge} {g : Option (Nat × Bool)}

theorem zeroCells_one (z : Value) (q : Nat) : (Builtin.zeroCells #[z] q).toList = List.replicate q z := by
  simp [Builtin.zeroCells]
  apply List.ext_getElem
  · simp
  · intro i h1 h2
    simp [Nat.mod_one]

/-- Clearing within a block of the call's own. -/
theorem o_clear {t E : TypeId} {x : Operand} {b o q c i : Nat} {vs : List Value} {T : TypeId} {z : Value} (hl : LH w0 M w bl) (hi : bl[i]? = some (b, .cells vs.toArray T (0, 0))) (hle : o + q ≤ vs.length) (hw : Region.wanted ⟨none, .call ⟨.builtin .clear, #[x], #[t]⟩, ty, p, af, g⟩ (yieldedE ops n s) = true)
    (ht : P.underlying t = some (.slice E)) (hz : zeroV P E = some z) (hz1 : z.cells = #[z]) (hz2 : z.oneCell' = true) (hx : rd n s x = .slice (some ⟨b, o, none⟩) q c)
    (hk : ∀ (w' : World) (vs' : List Value), LH w0 M w' (bl.set i (b, .cells vs'.toArray T (0, 0))) → vs'.length = vs.length → vs'.take o = vs.take o → OpsL P r n ops K X l s w') : OpsL P r n ops K X (⟨none, .call ⟨.builtin .clear, #[x], #[t]⟩, ty, p, af, g⟩ :: l) s w := by
  obtain ⟨w', hr, hl'⟩ := run_storeCells (P := P) (List.replicate q z) o 0 w bl vs hl hi (by simpa using hle) (by intro u hu; rw [List.eq_of_mem_replicate hu]; exact hz2)
  have hclr : (Builtin.clear_ #[t] ty #[.slice (some ⟨b, o, none⟩) q c]).run P w = .ok (.tuple #[]) w' ∨ q = 0 := by
    by_cases hq : q = 0
    · exact .inr hq
    · left
      obtain ⟨q', rfl⟩ : ∃ q', q = q' + 1 := ⟨q - 1, by omega⟩
      have hz3 : ∀ w, (zeroValue E).run P w = .ok z w := fun w => run_zeroV hz w
      have hzc := zeroCells_one z (q' + 1)
      rw [← hz1] at hzc
      simp [Builtin.clear_, run_underlying ht, hz3, hzc, hr]
  refine o_wanted hw ?_
  unfold OpW
  rw [Oper.semAt_eq _ _ _ (fun c e => by cases e)]
  simp only [execOp, resolve, List.map_toArray, List.map_cons, List.map_nil, hx]
  rw [sem_bind (w' := w) rfl]
  simp only [invoke, builtin]
  rcases hclr with h | rfl
  · rw [sem_bind h]
    refine hk w' _ hl' (by rw [putL_length]) ?_
    apply List.ext_getElem?
    intro j
    rw [List.getElem?_take, List.getElem?_take]
    split
    · rw [putL_get _ _ _ _ (by simpa using hle), if_neg (by omega)]
    · rfl
  · have h0 : (Builtin.clear_ #[t] ty #[.slice (some ⟨b, o, none⟩) 0 c]).run P w = .ok (.tuple #[]) w := by
      simp [Builtin.clear_, run_underlying ht]
    rw [sem_bind h0]
    refine hk w vs ?_ rfl rfl
    have : bl.set i (b, .cells vs.toArray T (0, 0)) = bl := by
      apply List.ext_getElem?
      intro j
      rw [List.getElem?_set]
      split
      · rename_i h; subst h
        have hil : i < bl.length := (List.getElem?_eq_some_iff.1 hi).1
        simp [hil]
        rw [List.getElem?_eq_getElem hil] at hi
        exact (Option.some.inj hi).symm
      · rfl
    rw [this]; exact hl
end
end Go.Pd
namespace Go.Proofs
open Go Go.Pd Go.Ne
attribute [local irreducible] OpsL W RetQ OpsQ OpsC

theorem lacks1_calls {pb gb : Nat} {es : Array MapEntry} {c : Nat} {gl : List Tx} (t : Tx) {w : World} (hp : Row w pb 2 [.map (some gb)]) (hg : w.heap[gb]? = some (.map es c)) (hm : MapR str es (boolM gl)) :
    Calls Try.prog 40 #[str t, .pointer (some ⟨pb, 0, none⟩)] w (fun e w' => ∃ x, e = .returned x ∧ x = .bool (decide (t ∈ gl)) ∧ w' = w) := by
  refine calls_of Try.func40 rfl Try.ntmps40 rfl ?_
  repeat' (first | refine a_mov ?_ | refine a_asg ?_ | refine a_binN ?_ | refine a_notd ?_ | refine a_notb ?_ | refine a_nilc ?_ | refine a_fa ?_ | refine a_ext ?_ | refine a_lenv ?_ | refine a_lens ?_ | refine a_pick_t ?_ | refine a_pick_f ?_ | refine a_not ?_ | refine a_nilf ?_ | (refine o_nil (hK _ _ ?_); clear hK K) | refine wk_reg ?_ | refine wk_seq fun K hK => ?_ | (refine wk_skip (hK _ _ ?_); clear hK K) | (refine wk_label (hK _ _ ?_); clear hK K) | refine wk_scope ?_ | refine wk_block ?_ | refine wk_cond_t rfl ?_ | refine wk_cond_f rfl ?_ | (refine wk_exit ?_; (repeat (refine blockK_other rfl ?_)); refine blockK_same ?_; try ((repeat ((fail_if_success (refine hK _ _ ?_)); clear hK K)); refine hK _ _ ?_; clear hK K)) | (refine a_bin ?_ ?_ <;> intro _ <;> try (exfalso; omega)) | refine a_ld hl ?_ | (refine a_st hl ?_; clear hl; intro _ hl) | refine a_ix (fun _ => ?_) | refine a_row hp ?_)
  refine o_lookup t hm hg (key_str rfl) rfl rfl rfl rfl rfl ?_
  rw [boolM_get]
  by_cases ht : t ∈ gl
  · rw [if_pos ht]
    repeat' (first | refine a_mov ?_ | refine a_asg ?_ | refine a_binN ?_ | refine a_notd ?_ | refine a_notb ?_ | refine a_nilc ?_ | refine a_fa ?_ | refine a_ext ?_ | refine a_lenv ?_ | refine a_lens ?_ | refine a_pick_t ?_ | refine a_pick_f ?_ | refine a_not ?_ | refine a_nilf ?_ | (refine o_nil (hK _ _ ?_); clear hK K) | refine wk_reg ?_ | refine wk_seq fun K hK => ?_ | (refine wk_skip (hK _ _ ?_); clear hK K) | (refine wk_label (hK _ _ ?_); clear hK K) | refine wk_scope ?_ | refine wk_block ?_ | refine wk_cond_t rfl ?_ | refine wk_cond_f rfl ?_ | (refine wk_exit ?_; (repeat (refine blockK_other rfl ?_)); refine blockK_same ?_; try ((repeat ((fail_if_success (refine hK _ _ ?_)); clear hK K)); refine hK _ _ ?_; clear hK K)) | (refine a_bin ?_ ?_ <;> intro _ <;> try (exfalso; omega)) | refine a_ld hl ?_ | (refine a_st hl ?_; clear hl; intro _ hl) | refine a_ix (fun _ => ?_) | fail)
    refine wk_ret (retQ_tmp1 Try.results40 (by decide) rfl (by conv => lhs; whnf) ?_)
    exact ⟨by rw [decide_eq_true ht], rfl⟩
  · rw [if_neg ht]
    repeat' (first | refine a_mov ?_ | refine a_asg ?_ | refine a_binN ?_ | refine a_notd ?_ | refine a_notb ?_ | refine a_nilc ?_ | refine a_fa ?_ | refine a_ext ?_ | refine a_lenv ?_ | refine a_lens ?_ | refine a_pick_t ?_ | refine a_pick_f ?_ | refine a_not ?_ | refine a_nilf ?_ | (refine o_nil (hK _ _ ?_); clear hK K) | refine wk_reg ?_ | refine wk_seq fun K hK => ?_ | (refine wk_skip (hK _ _ ?_); clear hK K) | (refine wk_label (hK _ _ ?_); clear hK K) | refine wk_scope ?_ | refine wk_block ?_ | refine wk_cond_t rfl ?_ | refine wk_cond_f rfl ?_ | (refine wk_exit ?_; (repeat (refine blockK_other rfl ?_)); refine blockK_same ?_; try ((repeat ((fail_if_success (refine hK _ _ ?_)); clear hK K)); refine hK _ _ ?_; clear hK K)) | (refine a_bin ?_ ?_ <;> intro _ <;> try (exfalso; omega)) | refine a_ld hl ?_ | (refine a_st hl ?_; clear hl; intro _ hl) | refine a_ix (fun _ => ?_) | fail)
    refine wk_ret (retQ_tmp1 Try.results40 (by decide) rfl (by conv => lhs; whnf) ?_)
    exact ⟨by rw [decide_eq_false ht], rfl⟩

theorem Sl.tx {w : World} {a : Option Addr} {m c : Nat} {l : List Tx} (hv : Sl w (.slice a m c) 1 (strL l)) (hm : m = l.length) {k : Nat} (hk : k < l.length) : ∃ b o, a = some ⟨b, o, none⟩ ∧ Row w b (o + k * 1) [str l[k]] := by
  subst hm
  obtain ⟨b, o, hp, hr⟩ := hv.at (strL_len l) (by omega) (by omega)
  refine ⟨b, o, hp, ?_⟩
  intro j v hj
  cases j with
  | zero =>
    simp at hj
    subst hj
    exact hr (k * 1) _ (by simp [hk])
  | succ j => simp at hj

/-- The first that is in the list, or -1. -/
def idxG (gl : List Tx) : List Tx → Nat → Int
  | [], _ => -1
  | t :: l, i => if t ∈ gl then (i : Int) else idxG gl l (i + 1)
theorem idxG_hit {gl : List Tx} : ∀ {l : List Tx} {i k : Nat} (hk : k < l.length), (∀ j (hj : j < l.length), j < k → l[j] ∉ gl) → l[k] ∈ gl → idxG gl l i = ((i + k : Nat) : Int)
  | [], _, _, hk, _, _ => by simp at hk
  | t :: l, i, 0, hk, _, h => by
    have h' : t ∈ gl := h
    simp [idxG, h']
  | t :: l, i, k + 1, hk, h1, h => by
    have h0 : t ∉ gl := h1 0 (by simp) (by omega)
    rw [idxG, if_neg h0, idxG_hit (l := l) (k := k) (by simpa using hk) (fun j hj hjk => h1 (j + 1) (by simpa using hj) (by omega)) h]
    congr 1; omega
theorem idxG_none {gl : List Tx} : ∀ {l : List Tx} {i : Nat}, (∀ j (hj : j < l.length), l[j] ∉ gl) → idxG gl l i = -1
  | [], _, _ => rfl
  | t :: l, i, h => by
    rw [idxG, if_neg (show t ∉ gl from h 0 (by simp)), idxG_none (l := l) fun j hj => h (j + 1) (by simpa using hj)]

theorem idxS_calls {pb gb : Nat} {es : Array MapEntry} {c : Nat} {gl l : List Tx} {v : Value} {w : World} (hv : Sl w v 1 (strL l)) (hlen : l.length ≤ 1000000) (hp : Row w pb 2 [.map (some gb)]) (hg : w.heap[gb]? = some (.map es c)) (hm : MapR str es (boolM gl)) :
    Calls Try.prog 43 #[v, .func (.func 40) #[] #[.pointer (some ⟨pb, 0, none⟩)]] w (fun e w' => ∃ x, e = .returned x ∧ x = .int .i64 (idxG gl l 0) ∧ w' = w) := by
  obtain ⟨pa, ca, rfl, -⟩ := hv.shape (strL_len l) (by omega)
  refine calls_of Try.func43 rfl Try.ntmps43 rfl ?_
  repeat' (first | refine a_mov ?_ | refine a_asg ?_ | refine a_binN ?_ | refine a_notd ?_ | refine a_notb ?_ | refine a_nilc ?_ | refine a_fa ?_ | refine a_ext ?_ | refine a_lenv ?_ | refine a_lens ?_ | refine a_pick_t ?_ | refine a_pick_f ?_ | refine a_not ?_ | refine a_nilf ?_ | (refine o_nil (hK _ _ ?_); clear hK K) | refine wk_reg ?_ | refine wk_seq fun K hK => ?_ | (refine wk_skip (hK _ _ ?_); clear hK K) | (refine wk_label (hK _ _ ?_); clear hK K) | refine wk_scope ?_ | refine wk_block ?_ | refine wk_cond_t rfl ?_ | refine wk_cond_f rfl ?_ | (refine wk_exit ?_; (repeat (refine blockK_other rfl ?_)); refine blockK_same ?_; try ((repeat ((fail_if_success (refine hK _ _ ?_)); clear hK K)); refine hK _ _ ?_; clear hK K)) | (refine a_bin ?_ ?_ <;> intro _ <;> try (exfalso; omega)) | refine a_ld hl ?_ | (refine a_st hl ?_; clear hl; intro _ hl) | refine a_ix (fun _ => ?_) | fail)
  refine wk_loopH [] rfl (fun k : Nat => [(0, .slice pa l.length ca), (1, .func (.func 40) #[] #[.pointer (some ⟨pb, 0, none⟩)]), (7, .int .i64 (l.length : Int)), (8, .int .i64 (k : Int))]) (fun k w' => (k ≤ l.length ∧ ∀ j (hj : j < l.length), j < k → l[j] ∉ gl) ∧ w' = w) (fun k => l.length - k) 0 ⟨rfl, rfl, rfl, rfl, trivial⟩ ⟨⟨by omega, fun j hj h => by omega⟩, rfl⟩ ?_
  rintro k t _ ⟨⟨hk, hno⟩, rfl⟩
  by_cases hk1 : k < l.length
  · obtain ⟨b, o, hpp, hr⟩ := Sl.tx hv rfl hk1
    repeat' (first | refine a_mov ?_ | refine a_asg ?_ | refine a_binN ?_ | refine a_notd ?_ | refine a_notb ?_ | refine a_nilc ?_ | refine a_fa ?_ | refine a_ext ?_ | refine a_lenv ?_ | refine a_lens ?_ | refine a_pick_t ?_ | refine a_pick_f ?_ | refine a_not ?_ | refine a_nilf ?_ | (refine o_nil (hK _ _ ?_); clear hK K) | refine wk_reg ?_ | refine wk_seq fun K hK => ?_ | (refine wk_skip (hK _ _ ?_); clear hK K) | (refine wk_label (hK _ _ ?_); clear hK K) | refine wk_scope ?_ | refine wk_block ?_ | refine wk_cond_t rfl ?_ | refine wk_cond_f rfl ?_ | (refine wk_exit ?_; (repeat (refine blockK_other rfl ?_)); refine blockK_same ?_; try ((repeat ((fail_if_success (refine hK _ _ ?_)); clear hK K)); refine hK _ _ ?_; clear hK K)) | (refine a_bin ?_ ?_ <;> intro _ <;> try (exfalso; omega)) | refine a_ld hl ?_ | (refine a_st hl ?_; clear hl; intro _ hl) | refine a_ix (fun _ => ?_) | refine a_idx (c := 1) k hpp ?_ | refine a_row hr ?_)
    refine a_fc #[str l[k]] #[.pointer (some ⟨pb, 0, none⟩)] _ rfl (lacks1_calls l[k] hp hg hm) ?_
    rintro _ w3 ⟨rfl, rfl⟩
    by_cases hd : l[k] ∈ gl
    · rw [decide_eq_true hd]
      repeat' (first | refine a_mov ?_ | refine a_asg ?_ | refine a_binN ?_ | refine a_notd ?_ | refine a_notb ?_ | refine a_nilc ?_ | refine a_fa ?_ | refine a_ext ?_ | refine a_lenv ?_ | refine a_lens ?_ | refine a_pick_t ?_ | refine a_pick_f ?_ | refine a_not ?_ | refine a_nilf ?_ | (refine o_nil (hK _ _ ?_); clear hK K) | refine wk_reg ?_ | refine wk_seq fun K hK => ?_ | (refine wk_skip (hK _ _ ?_); clear hK K) | (refine wk_label (hK _ _ ?_); clear hK K) | refine wk_scope ?_ | refine wk_block ?_ | refine wk_cond_t rfl ?_ | refine wk_cond_f rfl ?_ | (refine wk_exit ?_; (repeat (refine blockK_other rfl ?_)); refine blockK_same ?_; try ((repeat ((fail_if_success (refine hK _ _ ?_)); clear hK K)); refine hK _ _ ?_; clear hK K)) | (refine a_bin ?_ ?_ <;> intro _ <;> try (exfalso; omega)) | refine a_ld hl ?_ | (refine a_st hl ?_; clear hl; intro _ hl) | refine a_ix (fun _ => ?_) | fail)
      refine wk_ret (retQ_tmp1 Try.results43 (by decide) rfl (by conv => lhs; whnf) ?_)
      refine ⟨?_, rfl⟩
      rw [idxG_hit hk1 hno hd, Nat.zero_add]
    · rw [decide_eq_false hd]
      repeat' (first | refine a_mov ?_ | refine a_asg ?_ | refine a_binN ?_ | refine a_notd ?_ | refine a_notb ?_ | refine a_nilc ?_ | refine a_fa ?_ | refine a_ext ?_ | refine a_lenv ?_ | refine a_lens ?_ | refine a_pick_t ?_ | refine a_pick_f ?_ | refine a_not ?_ | refine a_nilf ?_ | (refine o_nil (hK _ _ ?_); clear hK K) | refine wk_reg ?_ | refine wk_seq fun K hK => ?_ | (refine wk_skip (hK _ _ ?_); clear hK K) | (refine wk_label (hK _ _ ?_); clear hK K) | refine wk_scope ?_ | refine wk_block ?_ | refine wk_cond_t rfl ?_ | refine wk_cond_f rfl ?_ | (refine wk_exit ?_; (repeat (refine blockK_other rfl ?_)); refine blockK_same ?_; try ((repeat ((fail_if_success (refine hK _ _ ?_)); clear hK K)); refine hK _ _ ?_; clear hK K)) | (refine a_bin ?_ ?_ <;> intro _ <;> try (exfalso; omega)) | refine a_ld hl ?_ | (refine a_st hl ?_; clear hl; intro _ hl) | refine a_ix (fun _ => ?_) | fail)
      exact o_nil ⟨k + 1, ⟨rfl, rfl, rfl, rfl, trivial⟩, rfl, ⟨⟨hk1, fun j hj hjk => by
        by_cases e : j = k
        · subst e; exact hd
        · exact hno j hj (by omega)⟩, rfl⟩, by omega⟩
  · have hall := idxG_none (gl := gl) (l := l) (i := 0) fun j hj => hno j hj (by omega)
    clear hno
    repeat' (first | refine a_mov ?_ | refine a_asg ?_ | refine a_binN ?_ | refine a_notd ?_ | refine a_notb ?_ | refine a_nilc ?_ | refine a_fa ?_ | refine a_ext ?_ | refine a_lenv ?_ | refine a_lens ?_ | refine a_pick_t ?_ | refine a_pick_f ?_ | refine a_not ?_ | refine a_nilf ?_ | (refine o_nil (hK _ _ ?_); clear hK K) | refine wk_reg ?_ | refine wk_seq fun K hK => ?_ | (refine wk_skip (hK _ _ ?_); clear hK K) | (refine wk_label (hK _ _ ?_); clear hK K) | refine wk_scope ?_ | refine wk_block ?_ | refine wk_cond_t rfl ?_ | refine wk_cond_f rfl ?_ | (refine wk_exit ?_; (repeat (refine blockK_other rfl ?_)); refine blockK_same ?_; try ((repeat ((fail_if_success (refine hK _ _ ?_)); clear hK K)); refine hK _ _ ?_; clear hK K)) | (refine a_bin ?_ ?_ <;> intro _ <;> try (exfalso; omega)) | refine a_ld hl ?_ | (refine a_st hl ?_; clear hl; intro _ hl) | refine a_ix (fun _ => ?_) | fail)
    refine wk_ret (retQ_tmp1 Try.results43 (by decide) rfl (by conv => lhs; whnf) ?_)
    exact ⟨by rw [hall], rfl⟩
end Go.Proofs
