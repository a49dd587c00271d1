/-
  Conditions of commencement: Parse.
-/
import Derived.Test.YtebaoilkpedppaaGreatDoorQSN
import Derived.Test.YtebaoilkpedppaaGreatDoorQSC
import Derived.Test.YtebaoilkpedppaaGreatDoorQStY
set_option linter.unusedVariables false
set_option linter.unusedSimpArgs false
set_option linter.unnecessarySimpa false
set_option maxRecDepth 10000
namespace Go.Pd
open Go Go.Proofs
theorem LH.lose {w0 w w' : World} {M : Nat → Prop} {pb : Nat} {o : Obj} {rest : List (Nat × Obj)} (h : LH w0 M w ((pb, o) :: rest)) (u : Upd (OneB pb) w w') : LH w0 M w' rest := by
  have hnd := h.nd
  simp only [List.map_cons, List.nodup_cons] at hnd
  refine ⟨h.upd.trans u fun k hk hM => ?_, fun p hp => ?_, fun p hp => h.fresh p (List.mem_cons_of_mem _ hp), hnd.2⟩
  · rw [List.mem_singleton.1 hM] at hk ⊢
    rcases h.fresh (pb, o) List.mem_cons_self with h1 | h1
    · simp only at h1; omega
    · exact h1
  · have hne : ¬ OneB pb p.1 := fun e => hnd.1 (by rw [← List.mem_singleton.1 e]; exact List.mem_map_of_mem hp)
    rw [u.same p.1 (h.lt (List.mem_cons_of_mem _ hp)) hne]
    exact h.own p (List.mem_cons_of_mem _ hp)
theorem row_block {w : World} {b o : Nat} {cs : Array Value} {T : TypeId} {vs : List Value} (h : w.heap[b]? = some (.cells cs T (0, 0))) (hr : Row w b o vs) {i : Nat} {v : Value} (hi : vs[i]? = some v) : cs[o + i]? = some v := by
  have h1 := hr i v hi
  unfold World.cell? at h1
  rw [h] at h1
  simpa using h1
end Go.Pd
namespace Go.Proofs
open Go Go.Pd Go.Sta
open Go.Lexs (Tok lex)
attribute [local irreducible] OpsL W RetQ OpsQ OpsC
def recD (b2 b3 b4 : Nat) : Deferred := { target := .fn (.func 28) #[.pointer (some ⟨b2, 0, none⟩), .pointer (some ⟨b3, 0, none⟩), .pointer (some ⟨b4, 0, none⟩)], args := #[] ++ #[] }
section
variable {s : St} {w : World} {R : Value → World → Prop} {b2 b3 b4 : Nat}
theorem parse_ret (hd : s.d = [recD b2 b3 b4]) (vs : List Value) (h : ∀ w', Ext w w' → ResOK Tryz.prog 40 s w' [.cell 2 24, .cell 3 27, .cell 4 3] vs ∧ R (tupleOf vs) w') : RetP Tryz.prog Tryz.f12 40 R (fun _ _ => False) .ret s w := by
  intro a hf
  rw [hd]
  refine leaves_rec (by simp) (fun _ => rfl) ?_
  refine CallsDIn.mono rec_calm ?_
  rintro e u' w' ⟨he, rfl, hx⟩
  obtain ⟨h1, h2⟩ := h w' hx
  exact ⟨he, rfl, _, run_results rfl hf h1, .inl ⟨_, rfl, h2⟩⟩
theorem parse_panic (hd : s.d = [recD b2 b3 b4]) {q : Sn} {kv : Value} {e0 a0 e a : Int} (hl : LH w (resK b2 b3 b4) w (resB b2 b3 b4 q kv e0 a0)) (h2 : s.t 2 = .pointer (some ⟨b2, 0, none⟩)) (h3 : s.t 3 = .pointer (some ⟨b3, 0, none⟩)) (h4 : s.t 4 = .pointer (some ⟨b4, 0, none⟩)) (h : ∀ w', Upd (resK b2 b3 b4) w w' → R (.tuple #[.agg (snL nilS (.slice none 0 0)).toArray, .int .i64 e, .int .i64 a]) w') : RetP Tryz.prog Tryz.f12 40 R (fun _ _ => False) (.panic (faultC e a)) s w := by
  intro t hf
  rw [hd]
  refine leaves_rec (by simp) (fun _ => rfl) ?_
  refine CallsDIn.mono (rec_fault hl) ?_
  rintro x u' w' ⟨he, rfl, hl'⟩
  refine ⟨he, rfl, _, run_results (vs := [.agg (snL nilS (.slice none 0 0)).toArray, .int .i64 e, .int .i64 a]) (rs := [.cell 2 24, .cell 3 27, .cell 4 3]) rfl hf ?_, .inl ⟨_, rfl, h w' hl'.upd⟩⟩
  exact ⟨by decide, ⟨_, h2, run_loadVarN rfl rfl (hl'.rowL (vs := snL nilS (.slice none 0 0)) 2 0 4 rfl)⟩, by decide, ⟨_, h3, run_loadVar1 rfl (hl'.cell 1 rfl rfl)⟩, by decide, ⟨_, h4, run_loadVar1 rfl (hl'.cell 0 rfl rfl)⟩, trivial⟩
end
def ParseOut (w w' : World) (q : Sn ⊕ (Int × Int)) (v : Value) : Prop :=
  match q with
  | .inl s => ∃ kv, v = .tuple #[.agg (snL s kv).toArray, .int .i64 0, .int .i64 0] ∧ KR w' (Fr w w') s.kids kv
  | .inr (e, a) => v = .tuple #[.agg (snL nilS (.slice none 0 0)).toArray, .int .i64 e, .int .i64 a]
theorem off_new {w : World} {sv : Value} {k : Nat} {vs : List Value} {pb : Nat} (h : Sl w sv k vs) (hk : 0 < k) (hne : vs ≠ []) (hpb : w.heap.size ≤ pb) : Off (OneB pb) sv := by
  rcases h with ⟨-, h⟩ | ⟨a, m, c, rfl, h2, h3, h4, h5⟩
  · exact absurd h hne
  · intro hm
    cases vs with
    | nil => exact hne rfl
    | cons v vs =>
      have := lt_of_row h5
      rw [List.mem_singleton.1 hm] at this
      omega
theorem off_res {w w0 : World} {M : Nat → Prop} {sv : Value} {ts : List Tok} {b2 b3 b4 : Nat} {e a : Int} (h : Sl w sv 4 (toksL ts)) (hl : LH w0 M w (resB b2 b3 b4 nilS (.slice none 0 0) e a)) (hne : toksL ts ≠ []) : Off (resK b2 b3 b4) sv := by
  cases ts with
  | nil => exact absurd rfl hne
  | cons t ts =>
    rcases h with ⟨-, h⟩ | ⟨ad, m, c, rfl, h2, h3, h4, h5⟩
    · exact absurd h hne
    · intro hm
      have h0 : (toksL (t :: ts))[0]? = some (.int .i64 (t.kind : Int)) := rfl
      have h3 : (toksL (t :: ts))[3]? = some (.int .i64 (t.pos : Int)) := rfl
      simp only [List.mem_cons, List.not_mem_nil, or_false] at hm
      rcases hm with hm | hm | hm
      · rw [hm] at h5
        have := row_block (hl.get 0 rfl) h5 h3
        simp at this
      · rw [hm] at h5
        have := row_block (hl.get 1 rfl) h5 h3
        simp at this
      · rw [hm] at h5
        have hb := hl.get 2 rfl
        have e3 := row_block hb h5 h3
        have hlt := (Array.getElem?_eq_some_iff.1 e3).1
        have hsz : (snL nilS (.slice none 0 0)).toArray.size = 4 := rfl
        have ho : ad.off = 0 := by omega
        rw [ho] at e3
        cases e3
theorem gather_ne : ∀ (fs : List Lexs.Found) (acc : List Tok) (e : Nat) (a : Int), Lexs.gather acc fs = .bad e a → e ≠ 0
  | [], acc, e, a, h => by cases h
  | f :: fs, acc, e, a, h => by
    simp only [Lexs.gather] at h
    split at h
    · cases h; assumption
    · split at h
      · cases h; decide
      · exact gather_ne fs _ e a h
theorem lex_ne {s : Tx} {e : Nat} {a : Int} (h : lex s = .bad e a) : e ≠ 0 := by
  unfold Lexs.lex at h
  split at h
  · cases h; decide
  · exact gather_ne _ _ _ _ h
set_option maxHeartbeats 4000000 in
theorem parse_calls (text : Tx) (w : World) : Calls Tryz.prog 12 #[str text] w (fun e w' => ∃ v, e = .returned v ∧ Ext w w' ∧ ParseOut w w' (parse text) v) := by
  refine Calls.mono (R := EndP (fun v w' => Ext w w' ∧ ParseOut w w' (parse text) v) (fun _ _ => False)) ?_ (fun e w' h => h.elim (fun ⟨v, h1, h2⟩ => ⟨v, h1, h2⟩) (fun ⟨c, h1, h2⟩ => h2.elim))
  refine calls_ofP Tryz.func12 rfl Tryz.ntmps12 rfl ?_
  refine wk_seq fun K hK => ?_
  refine wk_reg ?_
  refine o_alloc (LH.start w (fun _ => False)) [.int .i64 0, .string ⟨#[]⟩, .int .i64 0, .slice none 0 0] (by kernel_rfl) rfl ?_
  intro b2 w1 hb2 hl
  refine o_alloc hl [.int .i64 0] rfl rfl ?_
  clear hl
  intro b3 w2 hb3 hl
  refine o_alloc hl [.int .i64 0] rfl rfl ?_
  clear hl
  intro b4 w3 hb4 hl
  refine o_nil (hK _ _ ?_)
  clear hK K
  have hl : LH w (fun _ => False) w3 (resB b2 b3 b4 nilS (.slice none 0 0) 0 0) := by
    simp only [resB, nilS, snL, Sn.op, Sn.name, Sn.day, str_nil]
    exact hl
  refine wk_seq fun K hK => ?_
  refine wk_reg ?_
  refine a_mov ?_
  refine a_fn (lex_calls text w3) ?_
  rintro v w4 ⟨hx4, hout⟩
  replace hl := hl.ext hx4
  cases hlex : lex text with
  | bad e off =>
    rw [hlex] at hout
    obtain rfl := hout
    have hp : parse text = .inr ((e : Int), off) := by unfold parse; rw [hlex]
    repeat' (first | refine a_mov ?_ | refine a_asg ?_ | refine a_binN ?_ | refine a_notd ?_ | refine a_notb ?_ | refine a_nilc ?_ | refine a_fa ?_ | refine a_ext ?_ | refine a_lenv ?_ | refine a_lens ?_ | refine a_pick_t ?_ | refine a_pick_f ?_ | refine a_not ?_ | refine a_nilf ?_ | (refine a_bin ?_ ?_ <;> intro _ <;> try (exfalso; omega)) | refine a_ld hl ?_ | (refine a_st hl ?_; clear hl; intro _ hl) | refine a_ix (fun _ => ?_) | fail)
    refine o_nil (hK _ _ ?_)
    clear hK K
    rename_i w5 w6
    have hl : LH w (fun _ => False) w6 (resB b2 b3 b4 nilS (.slice none 0 0) e off) := hl
    refine wk_seq fun K hK => ?_
    refine wk_seq fun K2 hK2 => ?_
    refine wk_reg ?_
    have hne := lex_ne hlex
    repeat' (first | refine a_mov ?_ | refine a_asg ?_ | refine a_binN ?_ | refine a_notd ?_ | refine a_notb ?_ | refine a_nilc ?_ | refine a_fa ?_ | refine a_ext ?_ | refine a_lenv ?_ | refine a_lens ?_ | refine a_pick_t ?_ | refine a_pick_f ?_ | refine a_not ?_ | refine a_nilf ?_ | (refine a_bin ?_ ?_ <;> intro _ <;> try (exfalso; omega)) | refine a_ld hl ?_ | (refine a_st hl ?_; clear hl; intro _ hl) | refine a_ix (fun _ => ?_) | fail)
    refine o_nil (hK2 _ _ ?_)
    clear hK2 K2
    refine wk_cond_t rfl ?_
    refine wk_seq fun K2 hK2 => ?_
    refine wk_np (wk_draw (List.range 3) [0, 1, 2] [3, 4, 5] (fun w' => LH w (fun _ => False) w' (resB b2 b3 b4 nilS (.slice none 0 0) e off)) (fun w' => LH w (fun _ => False) w' (resB b2 b3 b4 nilS (.slice none 0 0) e off)) rfl (by kernel_rfl) (by intro _ _ _ _ h; exact h) (fun w' h => hl.heap h) (fun _ h => h) ?_)
    refine q_late rfl rfl rfl rfl (fun w' hw' => r_loadN rfl rfl rfl (hw'.rowL (vs := snL nilS (.slice none 0 0)) 2 0 4 rfl)) ?_
    refine q_late rfl rfl rfl rfl (fun w' hw' => r_load rfl rfl (hw'.cell 1 rfl rfl)) ?_
    refine q_late rfl rfl rfl rfl (fun w' hw' => r_load rfl rfl (hw'.cell 0 rfl rfl)) ?_
    refine q_nil ?_
    clear hl
    intro w7 hl
    refine ops_tail rfl rfl ?_
    refine o_putN (us := snL nilS (.slice none 0 0)) hl rfl rfl rfl (by simp only [nilS, snL, Sn.op, Sn.name, Sn.day, str_nil]; rfl) rfl (.there (.there (.all rfl rfl))) ?_
    clear hl
    intro w8 hl
    refine o_nil ⟨hl, ?_⟩
    refine ops_tail rfl rfl ?_
    refine o_put1 (b := b3) (o := 0) (v := .int .i64 e) hl rfl rfl rfl ⟨rfl, rfl⟩ rfl (.there (.here rfl rfl)) ?_
    clear hl
    intro w9 hl
    refine o_nil ⟨hl, ?_⟩
    refine ops_tail rfl rfl ?_
    refine o_put1 (b := b4) (o := 0) (v := .int .i64 off) hl rfl rfl rfl ⟨rfl, rfl⟩ rfl (.here rfl rfl) ?_
    clear hl
    intro w10 hl
    have hl : LH w (fun _ => False) w10 (resB b2 b3 b4 nilS (.slice none 0 0) e off) := hl
    refine o_nil ⟨hl, ?_⟩
    refine ops_nil (hK2 _ _ ?_)
    refine wk_ret (retP_of (retQ_res [.agg (snL nilS (.slice none 0 0)).toArray, .int .i64 e, .int .i64 off] rfl rfl ⟨by decide, ⟨⟨b2, 0, none⟩, rfl, run_loadVarN rfl rfl (hl.rowL (vs := snL nilS (.slice none 0 0)) 2 0 4 rfl)⟩, by decide, ⟨⟨b3, 0, none⟩, rfl, run_loadVar1 rfl (hl.cell 1 rfl rfl)⟩, by decide, ⟨⟨b4, 0, none⟩, rfl, run_loadVar1 rfl (hl.cell 0 rfl rfl)⟩, trivial⟩ ?_) rfl)
    refine ⟨hl.done, ?_⟩
    rw [hp]
    rfl
  | ok ts =>
    rw [hlex] at hout
    obtain ⟨sv, rfl, hsv⟩ := hout
    have hp : parse text = parseT text.length ts := by unfold parse; rw [hlex]
    obtain ⟨htok, hlen⟩ := lex_tok hlex
    have hl4 := hl
    replace hl := hl.rb
    repeat' (first | refine a_mov ?_ | refine a_asg ?_ | refine a_binN ?_ | refine a_notd ?_ | refine a_notb ?_ | refine a_nilc ?_ | refine a_fa ?_ | refine a_ext ?_ | refine a_lenv ?_ | refine a_lens ?_ | refine a_pick_t ?_ | refine a_pick_f ?_ | refine a_not ?_ | refine a_nilf ?_ | (refine a_bin ?_ ?_ <;> intro _ <;> try (exfalso; omega)) | refine a_ld hl ?_ | (refine a_st hl ?_; clear hl; intro _ hl) | refine a_ix (fun _ => ?_) | fail)
    refine o_nil (hK _ _ ?_)
    clear hK K
    rename_i w5 w6
    have hoff := off_res hsv hl4
    have hsv6 := sl_updE hsv hl.upd hoff
    have hl : LH w (fun _ => False) w6 (resB b2 b3 b4 nilS (.slice none 0 0) 0 0) := hl4.bk hl
    clear hl4
    refine wk_seq fun K hK => ?_
    refine wk_seq fun K2 hK2 => ?_
    refine wk_reg ?_
    repeat' (first | refine a_mov ?_ | refine a_asg ?_ | refine a_binN ?_ | refine a_notd ?_ | refine a_notb ?_ | refine a_nilc ?_ | refine a_fa ?_ | refine a_ext ?_ | refine a_lenv ?_ | refine a_lens ?_ | refine a_pick_t ?_ | refine a_pick_f ?_ | refine a_not ?_ | refine a_nilf ?_ | (refine a_bin ?_ ?_ <;> intro _ <;> try (exfalso; omega)) | refine a_ld hl ?_ | (refine a_st hl ?_; clear hl; intro _ hl) | refine a_ix (fun _ => ?_) | fail)
    refine o_nil (hK2 _ _ ?_)
    clear hK2 K2
    refine wk_cond_f rfl ?_
    refine wk_skip (hK _ _ ?_)
    clear hK K
    refine wk_seq fun K hK => ?_
    refine wk_reg ?_
    refine o_mf [] [.pointer (some ⟨b2, 0, none⟩), .pointer (some ⟨b3, 0, none⟩), .pointer (some ⟨b4, 0, none⟩)] rfl rfl rfl ?_
    refine a_defer ?_ rfl
    refine o_nil (hK _ _ ?_)
    clear hK K
    obtain ⟨ta, tc, rfl, hcap⟩ := hsv6.shape (toksL_len ts) (by omega)
    refine wk_seq fun K hK => ?_
    refine wk_reg ?_
    refine a_mov ?_
    refine a_mov ?_
    refine a_lens ?_
    refine o_build (psL (.slice ta ts.length tc) 0 text.length) rfl rfl ?_
    refine o_box (LH.start w6 (fun _ => False)) (psL (.slice ta ts.length tc) 0 text.length) rfl rfl rfl ?_
    intro pb w7 hpb hl7
    have hx7 := hl7.done
    replace hl := hl.join hl7
    have hl : LH w (fun _ => False) w7 (psB pb (.slice ta ts.length tc) (0 : Nat) text.length :: resB b2 b3 b4 nilS (.slice none 0 0) 0 0) := hl
    clear hl7
    have hT : TK w7 pb (.slice ta ts.length tc) ts := ⟨hsv6.ext hx7, fun hne => off_new hsv6 (by decide) hne hpb, hlen⟩
    refine a_asg ?_
    refine o_nil (hK _ _ ?_)
    clear hK K
    refine wk_seq fun K hK => ?_
    refine wk_reg ?_
    refine a_mov ?_
    refine a_fnP (start_calls (one_calls ts.length) (i := 0) (en := text.length) hT hl.one (Nat.zero_le _) (by omega)) ?_ ?_
    · rintro _ w8 ⟨s0, kv0, j, rfl, hr0, hj, hj2, hl8, hk0⟩
      have hl0 := hl
      replace hl := hl.swap hl8
      have hk8 : KR w8 (FrN w w8 (psB pb (.slice ta ts.length tc) j text.length :: resB b2 b3 b4 nilS (.slice none 0 0) 0 0)) s0.kids kv0 := KR.newN hl0 hl0.done.size rfl hk0
      obtain ⟨hfit, hok, -⟩ := pStart_good _ _ _ _ _ (fun t ht => htok t (by rw [List.drop_zero] at ht; exact ht)) (by rw [List.drop_zero]; exact hlen) hr0
      rw [List.drop_zero] at hr0
      have hlb := hl0.rb.swap hl8
      clear hl0 hl8
      have hone0 := snL_one hk0
      refine o_putN (us := snL s0 kv0) hl.rb rfl rfl rfl hone0 rfl (.there (.there (.there (.all rfl rfl)))) ?_
      intro w9 hl9
      have hk9 := KR.grow (l6 := psB pb (.slice ta ts.length tc) j text.length :: resB b2 b3 b4 nilS (.slice none 0 0) 0 0) hl9 hk8
      replace hl := hl.bk hl9
      have hl : LH w (fun _ => False) w9 (psB pb (.slice ta ts.length tc) j text.length :: resB b2 b3 b4 s0 kv0 0 0) := hl
      have hoff9 : toksL ts ≠ [] → Off (fun b => b ∈ [pb, b4, b3, b2]) (.slice ta ts.length tc) := fun hne => by
        have h1 := hoff hne
        have h2 := hT.2.1 hne
        cases ta with
        | none => trivial
        | some ad =>
          intro hm
          rcases List.mem_cons.1 hm with hm | hm
          · exact h2 (by rw [hm]; exact List.mem_singleton_self _)
          · exact h1 hm
      have hT9 : TK w9 pb (.slice ta ts.length tc) ts := ⟨sl_updE hT.1 (hlb.bk hl9).upd hoff9, hT.2⟩
      clear hl9 hk8 hk0 hlb hoff9
      refine o_nil (hK _ _ ?_)
      clear hK K
      refine wk_seq fun K hK => ?_
      refine wk_seq fun K2 hK2 => ?_
      refine wk_reg ?_
      repeat' (first | refine a_mov ?_ | refine a_asg ?_ | refine a_binN ?_ | refine a_notd ?_ | refine a_notb ?_ | refine a_nilc ?_ | refine a_fa ?_ | refine a_ext ?_ | refine a_lenv ?_ | refine a_lens ?_ | refine a_pick_t ?_ | refine a_pick_f ?_ | refine a_not ?_ | refine a_nilf ?_ | (refine a_bin ?_ ?_ <;> intro _ <;> try (exfalso; omega)) | refine a_ld hl ?_ | (refine a_st hl ?_; clear hl; intro _ hl) | refine a_ix (fun _ => ?_) | fail)
      · refine o_nil (hK2 _ _ ?_)
        clear hK2 K2
        refine wk_cond_t rfl ?_
        refine wk_reg ?_
        refine a_mov ?_
        refine a_fnP (fail_calls hT9 (hl.rowL (vs := psL (.slice ta ts.length tc) j text.length) 0 0 3 rfl) hj2) (fun v w' h => h.elim) ?_
        rintro ch w10 ⟨rfl, hx10⟩
        have hl10 := (hl.ext hx10).sub (List.sublist_cons_self _ _)
        refine parse_panic rfl hl10.rb rfl rfl rfl fun w' hu' => ⟨hl10.upd.trans hu' fun k hk hM => ?_, ?_⟩
        · rcases hl10.id hM with h1 | h1
          · omega
          · exact h1
        · rw [hp]
          unfold parseT
          rw [hr0]
          simp only
          rw [if_neg (fun h => by have := congrArg List.length h; simp at this; omega)]
          rfl
      · obtain rfl : j = ts.length := by omega
        rw [List.drop_length] at hr0
        refine o_nil (hK2 _ _ ?_)
        clear hK2 K2
        refine wk_cond_f rfl ?_
        refine wk_skip (hK _ _ ?_)
        clear hK K
        have hpt : parse text = if validB s0 then .inl s0 else .inr (2, 0) := by
          rw [hp]
          unfold parseT
          rw [hr0]
          simp only [if_true]
        replace hl := hl.sub (List.sublist_cons_self _ _)
        refine wk_seq fun K hK => ?_
        refine wk_seq fun K2 hK2 => ?_
        refine wk_reg ?_
        refine a_all (hl.rowL (vs := snL s0 kv0) 2 0 4 rfl) ?_
        refine a_fn (valid_calls (hk9.mono fun b hb => hb.2.1) hfit) ?_
        rintro _ w10 ⟨rfl, hx10⟩
        replace hl := hl.ext hx10
        have hk10 : KR w10 (FrN w w10 (psB pb (.slice ta ts.length tc) ts.length text.length :: resB b2 b3 b4 s0 kv0 0 0)) s0.kids kv0 := (hk9.ext hx10).mono fun b hb => ⟨hb.1, Nat.lt_of_lt_of_le hb.2.1 hx10.size, hb.2.2⟩
        refine a_notb ?_
        refine o_nil (hK2 _ _ ?_)
        clear hK2 K2
        cases hv : validB s0
        · rw [hv, if_neg (by decide)] at hpt
          refine wk_cond_t rfl ?_
          refine wk_seq fun K2 hK2 => ?_
          refine wk_reg ?_
          refine o_build [.int .i64 0, .string ⟨#[]⟩, .int .i64 0, .slice none 0 0] rfl (by kernel_rfl) ?_
          refine o_putN (us := [.int .i64 0, .string ⟨#[]⟩, .int .i64 0, .slice none 0 0]) hl rfl rfl rfl rfl rfl (.there (.there (.all rfl rfl))) ?_
          clear hl
          intro w11 hl
          repeat' (first | refine a_mov ?_ | refine a_asg ?_ | refine a_binN ?_ | refine a_notd ?_ | refine a_notb ?_ | refine a_nilc ?_ | refine a_fa ?_ | refine a_ext ?_ | refine a_lenv ?_ | refine a_lens ?_ | refine a_pick_t ?_ | refine a_pick_f ?_ | refine a_not ?_ | refine a_nilf ?_ | (refine a_bin ?_ ?_ <;> intro _ <;> try (exfalso; omega)) | refine a_ld hl ?_ | (refine a_st hl ?_; clear hl; intro _ hl) | refine a_ix (fun _ => ?_) | fail)
          refine o_nil (hK2 _ _ ?_)
          clear hK2 K2
          rename_i w12 w13
          have hl : LH w (fun _ => False) w13 (resB b2 b3 b4 nilS (.slice none 0 0) 2 0) := by
            simp only [resB, nilS, snL, Sn.op, Sn.name, Sn.day, str_nil]
            exact hl
          refine wk_ret (parse_ret rfl [.agg (snL nilS (.slice none 0 0)).toArray, .int .i64 2, .int .i64 0] fun w' hx => ?_)
          replace hl := hl.ext hx
          refine ⟨⟨by decide, ⟨⟨b2, 0, none⟩, rfl, run_loadVarN rfl rfl (hl.rowL (vs := snL nilS (.slice none 0 0)) 2 0 4 rfl)⟩, by decide, ⟨⟨b3, 0, none⟩, rfl, run_loadVar1 rfl (hl.cell 1 rfl rfl)⟩, by decide, ⟨⟨b4, 0, none⟩, rfl, run_loadVar1 rfl (hl.cell 0 rfl rfl)⟩, trivial⟩, hl.done, ?_⟩
          rw [hpt]
          rfl
        · rw [hv, if_pos rfl] at hpt
          refine wk_cond_f rfl ?_
          refine wk_skip (hK _ _ ?_)
          clear hK K
          refine wk_seq fun K hK => ?_
          refine wk_reg ?_
          refine a_all (hl.rowL (vs := snL s0 kv0) 2 0 4 rfl) ?_
          have hlr := hl
          replace hl := hl.rb
          refine o_putN (us := snL s0 kv0) hl rfl rfl rfl hone0 rfl (.there (.there (.all rfl rfl))) ?_
          clear hl
          intro w11 hl
          repeat' (first | refine a_mov ?_ | refine a_asg ?_ | refine a_binN ?_ | refine a_notd ?_ | refine a_notb ?_ | refine a_nilc ?_ | refine a_fa ?_ | refine a_ext ?_ | refine a_lenv ?_ | refine a_lens ?_ | refine a_pick_t ?_ | refine a_pick_f ?_ | refine a_not ?_ | refine a_nilf ?_ | (refine a_bin ?_ ?_ <;> intro _ <;> try (exfalso; omega)) | refine a_ld hl ?_ | (refine a_st hl ?_; clear hl; intro _ hl) | refine a_ix (fun _ => ?_) | fail)
          refine o_nil (hK _ _ ?_)
          clear hK K
          rename_i w12 w13
          have hl : LH w10 (fun b => b ∈ (resB b2 b3 b4 s0 kv0 0 0).map (·.1)) w13 (resB b2 b3 b4 s0 kv0 0 0) := hl
          have hk13 := KR.grow hl (hk10.mono fun b hb => ⟨hb.1, hb.2.1, fun hm => hb.2.2 (List.mem_cons_of_mem _ hm)⟩)
          replace hl := hlr.bk hl
          refine wk_ret (parse_ret rfl [.agg (snL s0 kv0).toArray, .int .i64 0, .int .i64 0] fun w' hx => ?_)
          replace hl := hl.ext hx
          refine ⟨⟨by decide, ⟨⟨b2, 0, none⟩, rfl, run_loadVarN rfl rfl (hl.rowL (vs := snL s0 kv0) 2 0 4 rfl)⟩, by decide, ⟨⟨b3, 0, none⟩, rfl, run_loadVar1 rfl (hl.cell 1 rfl rfl)⟩, by decide, ⟨⟨b4, 0, none⟩, rfl, run_loadVar1 rfl (hl.cell 0 rfl rfl)⟩, trivial⟩, hl.done, ?_⟩
          rw [hpt]
          exact ⟨kv0, rfl, (hk13.ext hx).mono fun b hb => ⟨hb.1, Nat.lt_of_lt_of_le hb.2.1 hx.size⟩⟩
    · rintro ch w8 ⟨e, a, hr, rfl, hu⟩
      have hl8 := hl.lose hu
      refine parse_panic rfl hl8.rb rfl rfl rfl fun w' hu' => ⟨hl8.upd.trans hu' fun k hk hM => ?_, ?_⟩
      · rcases hl8.id hM with h1 | h1
        · omega
        · exact h1
      · rw [hp]
        unfold parseT
        rw [List.drop_zero] at hr
        rw [hr]
        rfl
end Go.Proofs
