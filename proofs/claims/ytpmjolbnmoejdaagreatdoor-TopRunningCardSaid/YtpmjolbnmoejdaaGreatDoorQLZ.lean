/-
  tokens$2: the iterator, for any consumer.
-/
import Derived.Test.YtpmjolbnmoejdaaGreatDoorQLY
import Derived.Test.YtpmjolbnmoejdaaGreatDoorQLB
set_option linter.unusedVariables false
set_option linter.unusedSimpArgs false
set_option linter.unnecessarySimpa false
set_option maxRecDepth 10000
namespace Go.Proofs
open Go Go.Pd Go.Lexs
attribute [local irreducible] OpsL W RetQ OpsQ OpsC

def foundL (x : Lexs.Found) : List Value := [.int .i64 (x.tok.kind : Int), str x.tok.text, .int .i64 (x.tok.num : Int), .int .i64 (x.tok.pos : Int), .int .i64 (x.err : Int)]

theorem cls_hash {c : UInt8} (h : cls c = 2) : c = 35 := by
  unfold cls at h
  repeat (first | (split at h; · first | assumption | cases h) | cases h)

theorem cls_digit {c : UInt8} : cls c = 4 ↔ isDigit c = true := by
  constructor
  · intro h
    unfold cls at h
    split at h
    · cases h
    · split at h
      · assumption
      · repeat (split at h; · cases h)
        cases h
  · intro h
    have hb := digit_bd h
    have : isLetter c = false := by
      simp only [isLetter, UInt8.le_iff_toNat_le, Bool.or_eq_false_iff, Bool.and_eq_false_iff, decide_eq_false_iff_not]
      constructor <;> left <;> (simp; omega)
    simp [cls, this, h]

theorem drop_cons {s : List UInt8} {i : Nat} (h : i < s.length) : s.drop i = s[i] :: s.drop (i + 1) := List.drop_eq_getElem_cons h

theorem hd_lt {s : List UInt8} {j : Nat} (h : hd (s.drop j) ≠ 0) : j < s.length := by
  refine Nat.lt_of_not_le fun hle => h ?_
  rw [List.drop_eq_nil_iff.2 hle]; rfl

theorem hd_drop {s : List UInt8} {j : Nat} (h : j < s.length) : hd (s.drop j) = cls s[j] := by rw [drop_cons h]; rfl

theorem word_step {s : List UInt8} {j : Nat} (h : hd (s.drop j) = 3 ∨ hd (s.drop j) = 4 ∨ hd (s.drop j) = 5) : j < s.length ∧ spanLen isWord (s.drop j) = spanLen isWord (s.drop (j + 1)) + 1 := by
  have hlt : j < s.length := hd_lt (by omega)
  refine ⟨hlt, ?_⟩
  rw [hd_drop hlt] at h
  have hw : isWord s[j] = true := by
    unfold isWord
    rcases h with h | h | h <;> rw [h] <;> rfl
  rw [drop_cons hlt]
  simp only [spanLen, hw, if_true]

theorem word_stop {s : List UInt8} {j : Nat} (h3 : hd (s.drop j) ≠ 3) (h4 : hd (s.drop j) ≠ 4) (h5 : hd (s.drop j) ≠ 5) : spanLen isWord (s.drop j) = 0 := by
  cases hs : s.drop j with
  | nil => rfl
  | cons c s' =>
    rw [hs] at h3 h4 h5
    simp only [hd] at h3 h4 h5
    have hw : isWord c = false := by
      unfold isWord
      simp [h3, h4, h5]
    simp [spanLen, hw]

theorem digit_step {s : List UInt8} {j : Nat} (h : hd (s.drop j) = 4) : j < s.length ∧ spanLen isDigit (s.drop j) = spanLen isDigit (s.drop (j + 1)) + 1 := by
  have hlt : j < s.length := hd_lt (by omega)
  refine ⟨hlt, ?_⟩
  rw [hd_drop hlt] at h
  have hw : isDigit s[j] = true := cls_digit.1 h
  rw [drop_cons hlt]
  simp only [spanLen, hw, if_true]

theorem digit_stop {s : List UInt8} {j : Nat} (h : hd (s.drop j) ≠ 4) : spanLen isDigit (s.drop j) = 0 := by
  cases hs : s.drop j with
  | nil => rfl
  | cons c s' =>
    rw [hs] at h
    simp only [hd] at h
    have hw : isDigit c = false := by
      cases hd : isDigit c with
      | false => rfl
      | true => exact absurd (cls_digit.2 hd) h
    simp [spanLen, hw]

theorem span_all (p : UInt8 → Bool) : ∀ (s : List UInt8), ∀ c ∈ s.take (spanLen p s), p c = true
  | [], c, h => by simp at h
  | a :: s, c, h => by
    simp only [spanLen] at h
    split at h
    · rename_i ha
      rw [List.take_succ_cons] at h
      rcases List.mem_cons.1 h with rfl | h
      · exact ha
      · exact span_all p s c h
    · simp at h

theorem skip_here {s : List UInt8} {i : Nat} (h : i < s.length) (h1 : cls s[i] ≠ 1) (h2 : cls s[i] ≠ 2) : skip false (s.drop i) = s.drop i := by
  rw [drop_cons h]; simp only [skip, h1, h2, if_false]

theorem founds_here {s : List UInt8} {i : Nat} (h : i < s.length) (hs : skip false (s.drop i) = s.drop i) :
    founds s.length i (s.drop i) = found i (s.drop i) :: if (one (s.drop i)).err = 0 then founds s.length (i + (one (s.drop i)).len) (s.drop (i + (one (s.drop i)).len)) else [] := by
  obtain ⟨n, hn⟩ : ∃ n, s.length = n + 1 := ⟨s.length - 1, by omega⟩
  have hl : (s.drop i).length = s.length - i := List.length_drop
  have hdr := drop_cons h
  rw [hn]
  simp only [founds]
  rw [hs]
  generalize hx : s.drop i = x at *
  cases x with
  | nil => rw [List.length_nil] at hl; omega
  | cons c s' =>
    simp only [Nat.sub_self, Nat.add_zero]
    congr 1
    split
    · rename_i he
      have hp := one_len_pos (c :: s') he
      rw [← hx, List.drop_drop, hx]
      refine founds_fuel n (n + 1) _ _ ?_ ?_ <;> (rw [List.length_drop]; omega)
    · rfl

structure LexEnv (text : List UInt8) (bt bf bc : Nat) (w : World) : Prop where
  ht : w.cell? ⟨bt, 0, none⟩ = some (str text)
  hf : w.cell? ⟨bf, 0, none⟩ = some (.func (.func 138) #[] #[.pointer (some ⟨bt, 0, none⟩), .pointer (some ⟨bc, 0, none⟩)])
  hc : Row w bc 0 classL

theorem Row.ext {w w' : World} {b o : Nat} {vs : List Value} (h : Row w b o vs) (e : Ext w w') : Row w' b o vs := fun j v hj => e.cell (fun h => h) (h j v hj)

theorem LexEnv.ext {text : List UInt8} {bt bf bc : Nat} {w w' : World} (h : LexEnv text bt bf bc w) (e : Ext w w') : LexEnv text bt bf bc w' :=
  ⟨e.cell (fun h => h) h.ht, e.cell (fun h => h) h.hf, Row.ext h.hc e⟩

theorem LexEnv.at {text : List UInt8} {bt bf bc : Nat} {w : World} (h : LexEnv text bt bf bc w) (hn : text.length ≤ 9223372036854775807) (j : Nat) (hj : j ≤ 9223372036854775807) :
    CallV Tryz.prog (.func (.func 138) #[] #[.pointer (some ⟨bt, 0, none⟩), .pointer (some ⟨bc, 0, none⟩)]) #[.int .i64 (j : Int)] w (fun v w' => v = .int .u8 (hd (text.drop j) : Int) ∧ w' = w) :=
  callV_func (fun _ => rfl) (at_calls text j bt bc w hn hj h.ht h.hc)

set_option maxHeartbeats 4000000 in
theorem tokens2_calls (text : List UInt8) (hn : text.length ≤ 20000) (fv : Value) (bt bf bc : Nat) (J : List Lexs.Found → World → Prop) (S : World → Prop)
    (hE : ∀ pre w, J pre w → LexEnv text bt bf bc w) (hX : ∀ pre w w', J pre w → Ext w w' → J pre w')
    (hY : ∀ pre x rest w w1, founds text.length 0 text = pre ++ x :: rest → J pre w → Ext w w1 → CallV Tryz.prog fv #[.agg (foundL x).toArray] w1 (fun v w2 =>
      (v = .bool true ∧ J (pre ++ [x]) w2 ∧ ∀ b, w.heap.size ≤ b → b < w1.heap.size → w2.heap[b]? = w1.heap[b]?) ∨ (v = .bool false ∧ S w2)))
    (w : World) (h0 : J [] w) :
    Calls Tryz.prog 139 #[fv, .pointer (some ⟨bt, 0, none⟩), .pointer (some ⟨bf, 0, none⟩)] w (fun e w' => ∃ v, e = .returned v ∧ (J (founds text.length 0 text) w' ∨ S w')) := by
  refine calls_of Tryz.func139 rfl Tryz.ntmps139 rfl ?_
  repeat (first | refine o_mov rfl (by conv => lhs; whnf) ?_ | refine o_asg rfl (by conv => lhs; whnf) ?_ | refine o_binN rfl rfl rfl rfl (by omega) ?_ | refine o_notb rfl rfl ?_ | refine o_fa rfl rfl rfl ?_ | refine o_ext rfl rfl (by conv => lhs; whnf) ?_ | refine o_lens rfl rfl rfl ?_ | refine o_pick_t rfl rfl (by conv => lhs; whnf) ?_ | refine o_pick_f rfl rfl (by conv => lhs; whnf) ?_ | refine o_not rfl ?_ | (refine o_nil (hK _ _ ?_); clear hK K) | refine wk_reg ?_ | refine wk_seq fun K hK => ?_ | (refine wk_skip (hK _ _ ?_); clear hK K) | (refine wk_label (hK _ _ ?_); clear hK K) | refine wk_scope ?_ | refine wk_block ?_ | refine wk_cond_t rfl ?_ | refine wk_cond_f rfl ?_)
  refine wk_loopH [] rfl (fun x : Nat × List Lexs.Found => [(0, fv), (1, .pointer (some ⟨bt, 0, none⟩)), (2, .pointer (some ⟨bf, 0, none⟩)), (4, .int .i64 (x.1 : Int))]) (fun x w' => x.1 ≤ text.length ∧ J x.2 w' ∧ founds text.length 0 text = x.2 ++ founds text.length x.1 (text.drop x.1)) (fun x => text.length - x.1) (0, []) ⟨rfl, rfl, rfl, rfl, trivial⟩ ⟨Nat.zero_le _, h0, rfl⟩ ?_
  rintro ⟨i, pre⟩ t w0 ⟨hi, hJ, hall⟩
  have hen := hE _ _ hJ
  repeat (first | refine o_mov rfl (by conv => lhs; whnf) ?_ | refine o_asg rfl (by conv => lhs; whnf) ?_ | refine o_binN rfl rfl rfl rfl (by omega) ?_ | refine o_notb rfl rfl ?_ | refine o_fa rfl rfl rfl ?_ | refine o_ext rfl rfl (by conv => lhs; whnf) ?_ | refine o_lens rfl rfl rfl ?_ | refine o_pick_t rfl rfl (by conv => lhs; whnf) ?_ | refine o_pick_f rfl rfl (by conv => lhs; whnf) ?_ | refine o_not rfl ?_ | (refine o_nil (hK _ _ ?_); clear hK K) | refine wk_reg ?_ | refine wk_seq fun K hK => ?_ | (refine wk_skip (hK _ _ ?_); clear hK K) | (refine wk_label (hK _ _ ?_); clear hK K) | refine wk_scope ?_ | refine wk_block ?_ | refine wk_cond_t rfl ?_ | refine wk_cond_f rfl ?_)
  refine o_load rfl rfl rfl hen.ht ?_
  repeat' (first | refine o_mov rfl (by conv => lhs; whnf) ?_ | refine o_asg rfl (by conv => lhs; whnf) ?_ | refine o_binN rfl rfl rfl rfl (by omega) ?_ | refine o_notb rfl rfl ?_ | refine o_fa rfl rfl rfl ?_ | refine o_ext rfl rfl (by conv => lhs; whnf) ?_ | refine o_lens rfl rfl rfl ?_ | refine o_pick_t rfl rfl (by conv => lhs; whnf) ?_ | refine o_pick_f rfl rfl (by conv => lhs; whnf) ?_ | refine o_not rfl ?_ | (refine o_nil (hK _ _ ?_); clear hK K) | refine wk_reg ?_ | refine wk_seq fun K hK => ?_ | (refine wk_skip (hK _ _ ?_); clear hK K) | (refine wk_label (hK _ _ ?_); clear hK K) | refine wk_scope ?_ | refine wk_block ?_ | refine wk_cond_t rfl ?_ | refine wk_cond_f rfl ?_ | (refine wk_exit ?_; (repeat (refine blockK_other rfl ?_)); refine blockK_same ?_; (first | (refine hK _ _ ?_; clear hK K) | (clear hK K; refine hK _ _ ?_; clear hK K) | (clear hK K; clear hK K; refine hK _ _ ?_; clear hK K) | (clear hK K; clear hK K; clear hK K; refine hK _ _ ?_; clear hK K) | (clear hK K; clear hK K; clear hK K; clear hK K; refine hK _ _ ?_; clear hK K) | (clear hK K; clear hK K; clear hK K; clear hK K; clear hK K; refine hK _ _ ?_; clear hK K) | skip)) | (refine o_binT rfl rfl rfl rfl ?_ ?_ <;> intro _))
  rotate_left
  · refine retQ_tmp0 rfl rfl (.inl ?_)
    have : text.drop i = [] := List.drop_eq_nil_iff.2 (by omega)
    rw [this] at hall
    have h2 : founds text.length i [] = [] := by cases text.length <;> rfl
    rw [h2, List.append_nil] at hall
    rw [hall]; exact hJ
  have hlt : i < text.length := by omega
  refine o_build (t := 162) [.int .i64 0, .string ⟨#[]⟩, .int .i64 0, .int .i64 (i : Int)] rfl rfl ?_
  refine o_build (t := 184) [.int .i64 0, .string ⟨#[]⟩, .int .i64 0, .int .i64 (i : Int), .int .i64 0] rfl rfl ?_
  refine o_alloc (LH.start w0 (fun _ => False)) [.int .i64 0, .string ⟨#[]⟩, .int .i64 0, .int .i64 0, .int .i64 0] rfl rfl ?_
  intro f w1 hf hl
  refine o_store hl 0 [.int .i64 0, .string ⟨#[]⟩, .int .i64 0, .int .i64 (i : Int), .int .i64 0] rfl rfl rfl rfl rfl (by simp) rfl ?_
  intro w2 hl2
  clear hl
  have hl : LH w0 (fun _ => False) w2 [(f, .cells #[.int .i64 0, .string ⟨#[]⟩, .int .i64 0, .int .i64 (i : Int), .int .i64 0] 184 (0, 0))] := hl2
  clear hl2
  (refine o_nil (hK _ _ ?_); clear hK K)
  refine wk_seq fun K hK => ?_
  refine wk_cut [] (fun _ : Unit => [(0, fv), (1, .pointer (some ⟨bt, 0, none⟩)), (2, .pointer (some ⟨bf, 0, none⟩)), (4, .int .i64 ((i + (one (text.drop i)).len : Nat) : Int)), (5, .int .i64 (i : Int)), (6, .pointer (some ⟨f, 0, none⟩))])
    (fun _ w' => skip false (text.drop i) = text.drop i ∧ LH w0 (fun _ => False) w' [(f, .cells #[.int .i64 ((one (text.drop i)).kind : Int), .string ⟨#[]⟩, .int .i64 ((one (text.drop i)).num : Int), .int .i64 (i : Int), .int .i64 ((one (text.drop i)).err : Int)] 184 (0, 0))]) ?_ ?_
  · have hdr := drop_cons hlt
    have hhd : hd (text.drop i) = cls text[i] := hd_drop hlt
    repeat' (first | refine o_mov rfl (by conv => lhs; whnf) ?_ | refine o_asg rfl (by conv => lhs; whnf) ?_ | refine o_binN rfl rfl rfl rfl (by omega) ?_ | refine o_notb rfl rfl ?_ | refine o_fa rfl rfl rfl ?_ | refine o_ext rfl rfl (by conv => lhs; whnf) ?_ | refine o_lens rfl rfl rfl ?_ | refine o_pick_t rfl rfl (by conv => lhs; whnf) ?_ | refine o_pick_f rfl rfl (by conv => lhs; whnf) ?_ | refine o_not rfl ?_ | (refine o_nil (hK _ _ ?_); clear hK K) | refine wk_reg ?_ | refine wk_seq fun K hK => ?_ | (refine wk_skip (hK _ _ ?_); clear hK K) | (refine wk_label (hK _ _ ?_); clear hK K) | refine wk_scope ?_ | refine wk_block ?_ | refine wk_cond_t rfl ?_ | refine wk_cond_f rfl ?_ | (refine wk_exit ?_; (repeat (refine blockK_other rfl ?_)); refine blockK_same ?_; (first | (refine hK _ _ ?_; clear hK K) | (clear hK K; refine hK _ _ ?_; clear hK K) | (clear hK K; clear hK K; refine hK _ _ ?_; clear hK K) | (clear hK K; clear hK K; clear hK K; refine hK _ _ ?_; clear hK K) | (clear hK K; clear hK K; clear hK K; clear hK K; refine hK _ _ ?_; clear hK K) | (clear hK K; clear hK K; clear hK K; clear hK K; clear hK K; refine hK _ _ ?_; clear hK K) | skip)) | (refine o_binT rfl rfl rfl rfl ?_ ?_ <;> intro _))
    refine o_load rfl rfl rfl (hen.ext hl.done).hf ?_
    repeat' (first | refine o_mov rfl (by conv => lhs; whnf) ?_ | refine o_asg rfl (by conv => lhs; whnf) ?_ | refine o_binN rfl rfl rfl rfl (by omega) ?_ | refine o_notb rfl rfl ?_ | refine o_fa rfl rfl rfl ?_ | refine o_ext rfl rfl (by conv => lhs; whnf) ?_ | refine o_lens rfl rfl rfl ?_ | refine o_pick_t rfl rfl (by conv => lhs; whnf) ?_ | refine o_pick_f rfl rfl (by conv => lhs; whnf) ?_ | refine o_not rfl ?_ | (refine o_nil (hK _ _ ?_); clear hK K) | refine wk_reg ?_ | refine wk_seq fun K hK => ?_ | (refine wk_skip (hK _ _ ?_); clear hK K) | (refine wk_label (hK _ _ ?_); clear hK K) | refine wk_scope ?_ | refine wk_block ?_ | refine wk_cond_t rfl ?_ | refine wk_cond_f rfl ?_ | (refine wk_exit ?_; (repeat (refine blockK_other rfl ?_)); refine blockK_same ?_; (first | (refine hK _ _ ?_; clear hK K) | (clear hK K; refine hK _ _ ?_; clear hK K) | (clear hK K; clear hK K; refine hK _ _ ?_; clear hK K) | (clear hK K; clear hK K; clear hK K; refine hK _ _ ?_; clear hK K) | (clear hK K; clear hK K; clear hK K; clear hK K; refine hK _ _ ?_; clear hK K) | (clear hK K; clear hK K; clear hK K; clear hK K; clear hK K; refine hK _ _ ?_; clear hK K) | skip)) | (refine o_binT rfl rfl rfl rfl ?_ ?_ <;> intro _))
    refine o_callv rfl rfl rfl ((hen.ext hl.done).at (by omega) i (by omega)) ?_
    rintro _ _ ⟨rfl, rfl⟩
    rw [hhd]
    repeat' (first | refine o_mov rfl (by conv => lhs; whnf) ?_ | refine o_asg rfl (by conv => lhs; whnf) ?_ | refine o_binN rfl rfl rfl rfl (by omega) ?_ | refine o_notb rfl rfl ?_ | refine o_fa rfl rfl rfl ?_ | refine o_ext rfl rfl (by conv => lhs; whnf) ?_ | refine o_lens rfl rfl rfl ?_ | refine o_pick_t rfl rfl (by conv => lhs; whnf) ?_ | refine o_pick_f rfl rfl (by conv => lhs; whnf) ?_ | refine o_not rfl ?_ | (refine o_nil (hK _ _ ?_); clear hK K) | refine wk_reg ?_ | refine wk_seq fun K hK => ?_ | (refine wk_skip (hK _ _ ?_); clear hK K) | (refine wk_label (hK _ _ ?_); clear hK K) | refine wk_scope ?_ | refine wk_block ?_ | refine wk_cond_t rfl ?_ | refine wk_cond_f rfl ?_ | (refine wk_exit ?_; (repeat (refine blockK_other rfl ?_)); refine blockK_same ?_; (first | (refine hK _ _ ?_; clear hK K) | (clear hK K; refine hK _ _ ?_; clear hK K) | (clear hK K; clear hK K; refine hK _ _ ?_; clear hK K) | (clear hK K; clear hK K; clear hK K; refine hK _ _ ?_; clear hK K) | (clear hK K; clear hK K; clear hK K; clear hK K; refine hK _ _ ?_; clear hK K) | (clear hK K; clear hK K; clear hK K; clear hK K; clear hK K; refine hK _ _ ?_; clear hK K) | skip)) | (refine o_binT rfl rfl rfl rfl ?_ ?_ <;> intro _))
    · -- blank
      refine ⟨(i + 1, pre), ⟨rfl, rfl, rfl, rfl, trivial⟩, rfl, ⟨hlt, hX _ _ _ hJ hl.done, ?_⟩, by simp only; omega⟩
      rw [hall]
      congr 1
      refine founds_congr ?_ (by simp only [List.length_drop]; omega) (by simp) (by simp)
      have h1 : cls text[i] = 1 := by omega
      rw [hdr]; simp only [skip, h1, if_true]
    · -- hash
      have h35 : text[i] = 35 := cls_hash (by omega)
      have hsk : skip false (text.drop i) = skip true (text.drop i) := by
        rw [hdr, h35]; simp [skip, show cls 35 = 2 from rfl]
      refine wk_loopH [] rfl (fun j : Nat => [(0, fv), (1, .pointer (some ⟨bt, 0, none⟩)), (2, .pointer (some ⟨bf, 0, none⟩)), (4, .int .i64 (j : Int))]) (fun j w' => (i ≤ j ∧ j ≤ text.length ∧ skip true (text.drop j) = skip true (text.drop i)) ∧ LexEnv text bt bf bc w' ∧ J pre w') (fun j => text.length - j) i ⟨rfl, rfl, rfl, rfl, trivial⟩ ⟨⟨Nat.le_refl _, hi, rfl⟩, hen.ext hl.done, hX _ _ _ hJ hl.done⟩ ?_
      rintro j t3 w3 ⟨⟨hj1, hj2, hj3⟩, hen3, hJ3⟩
      repeat' (first | refine o_mov rfl (by conv => lhs; whnf) ?_ | refine o_asg rfl (by conv => lhs; whnf) ?_ | refine o_binN rfl rfl rfl rfl (by omega) ?_ | refine o_notb rfl rfl ?_ | refine o_fa rfl rfl rfl ?_ | refine o_ext rfl rfl (by conv => lhs; whnf) ?_ | refine o_lens rfl rfl rfl ?_ | refine o_pick_t rfl rfl (by conv => lhs; whnf) ?_ | refine o_pick_f rfl rfl (by conv => lhs; whnf) ?_ | refine o_not rfl ?_ | (refine o_nil (hK _ _ ?_); clear hK K) | refine wk_reg ?_ | refine wk_seq fun K hK => ?_ | (refine wk_skip (hK _ _ ?_); clear hK K) | (refine wk_label (hK _ _ ?_); clear hK K) | refine wk_scope ?_ | refine wk_block ?_ | refine wk_cond_t rfl ?_ | refine wk_cond_f rfl ?_ | (refine wk_exit ?_; (repeat (refine blockK_other rfl ?_)); refine blockK_same ?_; (first | (refine hK _ _ ?_; clear hK K) | (clear hK K; refine hK _ _ ?_; clear hK K) | (clear hK K; clear hK K; refine hK _ _ ?_; clear hK K) | (clear hK K; clear hK K; clear hK K; refine hK _ _ ?_; clear hK K) | (clear hK K; clear hK K; clear hK K; clear hK K; refine hK _ _ ?_; clear hK K) | (clear hK K; clear hK K; clear hK K; clear hK K; clear hK K; refine hK _ _ ?_; clear hK K) | skip)) | (refine o_binT rfl rfl rfl rfl ?_ ?_ <;> intro _))
      refine o_load rfl rfl rfl hen3.ht ?_
      repeat' (first | refine o_mov rfl (by conv => lhs; whnf) ?_ | refine o_asg rfl (by conv => lhs; whnf) ?_ | refine o_binN rfl rfl rfl rfl (by omega) ?_ | refine o_notb rfl rfl ?_ | refine o_fa rfl rfl rfl ?_ | refine o_ext rfl rfl (by conv => lhs; whnf) ?_ | refine o_lens rfl rfl rfl ?_ | refine o_pick_t rfl rfl (by conv => lhs; whnf) ?_ | refine o_pick_f rfl rfl (by conv => lhs; whnf) ?_ | refine o_not rfl ?_ | (refine o_nil (hK _ _ ?_); clear hK K) | refine wk_reg ?_ | refine wk_seq fun K hK => ?_ | (refine wk_skip (hK _ _ ?_); clear hK K) | (refine wk_label (hK _ _ ?_); clear hK K) | refine wk_scope ?_ | refine wk_block ?_ | refine wk_cond_t rfl ?_ | refine wk_cond_f rfl ?_ | (refine wk_exit ?_; (repeat (refine blockK_other rfl ?_)); refine blockK_same ?_; (first | (refine hK _ _ ?_; clear hK K) | (clear hK K; refine hK _ _ ?_; clear hK K) | (clear hK K; clear hK K; refine hK _ _ ?_; clear hK K) | (clear hK K; clear hK K; clear hK K; refine hK _ _ ?_; clear hK K) | (clear hK K; clear hK K; clear hK K; clear hK K; refine hK _ _ ?_; clear hK K) | (clear hK K; clear hK K; clear hK K; clear hK K; clear hK K; refine hK _ _ ?_; clear hK K) | skip)) | (refine o_binT rfl rfl rfl rfl ?_ ?_ <;> intro _))
      · refine o_load rfl rfl rfl hen3.ht ?_
        repeat' (first | refine o_mov rfl (by conv => lhs; whnf) ?_ | refine o_asg rfl (by conv => lhs; whnf) ?_ | refine o_binN rfl rfl rfl rfl (by omega) ?_ | refine o_notb rfl rfl ?_ | refine o_fa rfl rfl rfl ?_ | refine o_ext rfl rfl (by conv => lhs; whnf) ?_ | refine o_lens rfl rfl rfl ?_ | refine o_pick_t rfl rfl (by conv => lhs; whnf) ?_ | refine o_pick_f rfl rfl (by conv => lhs; whnf) ?_ | refine o_not rfl ?_ | (refine o_nil (hK _ _ ?_); clear hK K) | refine wk_reg ?_ | refine wk_seq fun K hK => ?_ | (refine wk_skip (hK _ _ ?_); clear hK K) | (refine wk_label (hK _ _ ?_); clear hK K) | refine wk_scope ?_ | refine wk_block ?_ | refine wk_cond_t rfl ?_ | refine wk_cond_f rfl ?_ | (refine wk_exit ?_; (repeat (refine blockK_other rfl ?_)); refine blockK_same ?_; (first | (refine hK _ _ ?_; clear hK K) | (clear hK K; refine hK _ _ ?_; clear hK K) | (clear hK K; clear hK K; refine hK _ _ ?_; clear hK K) | (clear hK K; clear hK K; clear hK K; refine hK _ _ ?_; clear hK K) | (clear hK K; clear hK K; clear hK K; clear hK K; refine hK _ _ ?_; clear hK K) | (clear hK K; clear hK K; clear hK K; clear hK K; clear hK K; refine hK _ _ ?_; clear hK K) | skip)) | (refine o_binT rfl rfl rfl rfl ?_ ?_ <;> intro _))
        have hjl : j < text.length := by omega
        refine o_index (c := text[j]) j rfl rfl rfl rfl rfl (by simp [hjl]) ?_
        repeat' (first | refine o_mov rfl (by conv => lhs; whnf) ?_ | refine o_asg rfl (by conv => lhs; whnf) ?_ | refine o_binN rfl rfl rfl rfl (by omega) ?_ | refine o_notb rfl rfl ?_ | refine o_fa rfl rfl rfl ?_ | refine o_ext rfl rfl (by conv => lhs; whnf) ?_ | refine o_lens rfl rfl rfl ?_ | refine o_pick_t rfl rfl (by conv => lhs; whnf) ?_ | refine o_pick_f rfl rfl (by conv => lhs; whnf) ?_ | refine o_not rfl ?_ | (refine o_nil (hK _ _ ?_); clear hK K) | refine wk_reg ?_ | refine wk_seq fun K hK => ?_ | (refine wk_skip (hK _ _ ?_); clear hK K) | (refine wk_label (hK _ _ ?_); clear hK K) | refine wk_scope ?_ | refine wk_block ?_ | refine wk_cond_t rfl ?_ | refine wk_cond_f rfl ?_ | (refine wk_exit ?_; (repeat (refine blockK_other rfl ?_)); refine blockK_same ?_; (first | (refine hK _ _ ?_; clear hK K) | (clear hK K; refine hK _ _ ?_; clear hK K) | (clear hK K; clear hK K; refine hK _ _ ?_; clear hK K) | (clear hK K; clear hK K; clear hK K; refine hK _ _ ?_; clear hK K) | (clear hK K; clear hK K; clear hK K; clear hK K; refine hK _ _ ?_; clear hK K) | (clear hK K; clear hK K; clear hK K; clear hK K; clear hK K; refine hK _ _ ?_; clear hK K) | skip)) | (refine o_binT rfl rfl rfl rfl ?_ ?_ <;> intro _))
        · refine o_nil ⟨j + 1, ⟨rfl, rfl, rfl, rfl, trivial⟩, rfl, ⟨⟨by omega, by omega, ?_⟩, hen3, hJ3⟩, by omega⟩
          rw [← hj3, drop_cons hjl]
          have hne : text[j].toNat ≠ 10 := by omega
          have : ¬ text[j] = 10 := fun h => hne (by rw [h]; rfl)
          simp only [skip, this, if_false]
        · have h10 : text[j] = 10 := by
            apply UInt8.toNat_inj.1
            show _ = 10
            omega
          refine ⟨(j, pre), ⟨rfl, rfl, rfl, rfl, trivial⟩, rfl, ⟨by omega, hJ3, ?_⟩, ?_⟩
          · rw [hall]; congr 1
            refine founds_congr ?_ (by simp only [List.length_drop]; omega) (by simp) (by simp)
            rw [hsk, ← hj3, drop_cons hjl]
            simp [skip, h10, show cls 10 = 1 from rfl]
          · have : j ≠ i := by rintro rfl; rw [h35] at h10; exact absurd h10 (by decide)
            simp only; omega
      · refine ⟨(j, pre), ⟨rfl, rfl, rfl, rfl, trivial⟩, rfl, ⟨by omega, hJ3, ?_⟩, by simp only; omega⟩
        rw [hall]; congr 1
        refine founds_congr ?_ (by simp only [List.length_drop]; omega) (by simp) (by simp)
        rw [hsk, ← hj3, List.drop_eq_nil_iff.2 (by omega)]
        rfl
    · -- letters
      have h3 : cls text[i] = 3 := by omega
      have hs1 : skip false (text.drop i) = text.drop i := skip_here hlt (by omega) (by omega)
      refine o_load rfl rfl rfl (hen.ext hl.done).hf ?_
      repeat' (first | refine o_mov rfl (by conv => lhs; whnf) ?_ | refine o_asg rfl (by conv => lhs; whnf) ?_ | refine o_binN rfl rfl rfl rfl (by omega) ?_ | refine o_notb rfl rfl ?_ | refine o_fa rfl rfl rfl ?_ | refine o_ext rfl rfl (by conv => lhs; whnf) ?_ | refine o_lens rfl rfl rfl ?_ | refine o_pick_t rfl rfl (by conv => lhs; whnf) ?_ | refine o_pick_f rfl rfl (by conv => lhs; whnf) ?_ | refine o_not rfl ?_ | (refine o_nil (hK _ _ ?_); clear hK K) | refine wk_reg ?_ | refine wk_seq fun K hK => ?_ | (refine wk_skip (hK _ _ ?_); clear hK K) | (refine wk_label (hK _ _ ?_); clear hK K) | refine wk_scope ?_ | refine wk_block ?_ | refine wk_cond_t rfl ?_ | refine wk_cond_f rfl ?_ | (refine wk_exit ?_; (repeat (refine blockK_other rfl ?_)); refine blockK_same ?_; (first | (refine hK _ _ ?_; clear hK K) | (clear hK K; refine hK _ _ ?_; clear hK K) | (clear hK K; clear hK K; refine hK _ _ ?_; clear hK K) | (clear hK K; clear hK K; clear hK K; refine hK _ _ ?_; clear hK K) | (clear hK K; clear hK K; clear hK K; clear hK K; refine hK _ _ ?_; clear hK K) | (clear hK K; clear hK K; clear hK K; clear hK K; clear hK K; refine hK _ _ ?_; clear hK K) | skip)) | (refine o_binT rfl rfl rfl rfl ?_ ?_ <;> intro _))
      refine o_callv rfl rfl rfl ((hen.ext hl.done).at (by omega) i (by omega)) ?_
      rintro _ _ ⟨rfl, rfl⟩
      repeat' (first | refine o_mov rfl (by conv => lhs; whnf) ?_ | refine o_asg rfl (by conv => lhs; whnf) ?_ | refine o_binN rfl rfl rfl rfl (by omega) ?_ | refine o_notb rfl rfl ?_ | refine o_fa rfl rfl rfl ?_ | refine o_ext rfl rfl (by conv => lhs; whnf) ?_ | refine o_lens rfl rfl rfl ?_ | refine o_pick_t rfl rfl (by conv => lhs; whnf) ?_ | refine o_pick_f rfl rfl (by conv => lhs; whnf) ?_ | refine o_not rfl ?_ | (refine o_nil (hK _ _ ?_); clear hK K) | refine wk_reg ?_ | refine wk_seq fun K hK => ?_ | (refine wk_skip (hK _ _ ?_); clear hK K) | (refine wk_label (hK _ _ ?_); clear hK K) | refine wk_scope ?_ | refine wk_block ?_ | refine wk_cond_t rfl ?_ | refine wk_cond_f rfl ?_ | (refine wk_exit ?_; (repeat (refine blockK_other rfl ?_)); refine blockK_same ?_; (first | (refine hK _ _ ?_; clear hK K) | (clear hK K; refine hK _ _ ?_; clear hK K) | (clear hK K; clear hK K; refine hK _ _ ?_; clear hK K) | (clear hK K; clear hK K; clear hK K; refine hK _ _ ?_; clear hK K) | (clear hK K; clear hK K; clear hK K; clear hK K; refine hK _ _ ?_; clear hK K) | (clear hK K; clear hK K; clear hK K; clear hK K; clear hK K; refine hK _ _ ?_; clear hK K) | skip)) | (refine o_binT rfl rfl rfl rfl ?_ ?_ <;> intro _))
      refine wk_loopH [] rfl (fun j : Nat => [(0, fv), (1, .pointer (some ⟨bt, 0, none⟩)), (2, .pointer (some ⟨bf, 0, none⟩)), (4, .int .i64 (j : Int)), (5, .int .i64 (i : Int)), (6, .pointer (some ⟨f, 0, none⟩)), (7, .int .u8 (hd (text.drop j) : Int))]) (fun j w' => (i ≤ j ∧ j ≤ text.length ∧ spanLen isWord (text.drop i) = (j - i) + spanLen isWord (text.drop j)) ∧ LH w0 (fun _ => False) w' [(f, .cells #[.int .i64 0, .string ⟨#[]⟩, .int .i64 0, .int .i64 (i : Int), .int .i64 0] 184 (0, 0))]) (fun j => text.length - j) i ⟨rfl, rfl, rfl, rfl, rfl, rfl, rfl, trivial⟩ ⟨⟨Nat.le_refl _, hi, by omega⟩, hl⟩ ?_
      clear hl
      rintro j t3 w3 ⟨⟨hj1, hj2, hj3⟩, hl⟩
      repeat' (first | refine o_mov rfl (by conv => lhs; whnf) ?_ | refine o_asg rfl (by conv => lhs; whnf) ?_ | refine o_binN rfl rfl rfl rfl (by omega) ?_ | refine o_notb rfl rfl ?_ | refine o_fa rfl rfl rfl ?_ | refine o_ext rfl rfl (by conv => lhs; whnf) ?_ | refine o_lens rfl rfl rfl ?_ | refine o_pick_t rfl rfl (by conv => lhs; whnf) ?_ | refine o_pick_f rfl rfl (by conv => lhs; whnf) ?_ | refine o_not rfl ?_ | (refine o_nil (hK _ _ ?_); clear hK K) | refine wk_reg ?_ | refine wk_seq fun K hK => ?_ | (refine wk_skip (hK _ _ ?_); clear hK K) | (refine wk_label (hK _ _ ?_); clear hK K) | refine wk_scope ?_ | refine wk_block ?_ | refine wk_cond_t rfl ?_ | refine wk_cond_f rfl ?_ | (refine wk_exit ?_; (repeat (refine blockK_other rfl ?_)); refine blockK_same ?_; (first | (refine hK _ _ ?_; clear hK K) | (clear hK K; refine hK _ _ ?_; clear hK K) | (clear hK K; clear hK K; refine hK _ _ ?_; clear hK K) | (clear hK K; clear hK K; clear hK K; refine hK _ _ ?_; clear hK K) | (clear hK K; clear hK K; clear hK K; clear hK K; refine hK _ _ ?_; clear hK K) | (clear hK K; clear hK K; clear hK K; clear hK K; clear hK K; refine hK _ _ ?_; clear hK K) | skip)) | (refine o_binT rfl rfl rfl rfl ?_ ?_ <;> intro _))
      iterate 3
        · have hst := word_step (s := text) (j := j) (by omega)
          refine o_load rfl rfl rfl (hen.ext hl.done).hf ?_
          repeat' (first | refine o_mov rfl (by conv => lhs; whnf) ?_ | refine o_asg rfl (by conv => lhs; whnf) ?_ | refine o_binN rfl rfl rfl rfl (by omega) ?_ | refine o_notb rfl rfl ?_ | refine o_fa rfl rfl rfl ?_ | refine o_ext rfl rfl (by conv => lhs; whnf) ?_ | refine o_lens rfl rfl rfl ?_ | refine o_pick_t rfl rfl (by conv => lhs; whnf) ?_ | refine o_pick_f rfl rfl (by conv => lhs; whnf) ?_ | refine o_not rfl ?_ | (refine o_nil (hK _ _ ?_); clear hK K) | refine wk_reg ?_ | refine wk_seq fun K hK => ?_ | (refine wk_skip (hK _ _ ?_); clear hK K) | (refine wk_label (hK _ _ ?_); clear hK K) | refine wk_scope ?_ | refine wk_block ?_ | refine wk_cond_t rfl ?_ | refine wk_cond_f rfl ?_ | (refine wk_exit ?_; (repeat (refine blockK_other rfl ?_)); refine blockK_same ?_; (first | (refine hK _ _ ?_; clear hK K) | (clear hK K; refine hK _ _ ?_; clear hK K) | (clear hK K; clear hK K; refine hK _ _ ?_; clear hK K) | (clear hK K; clear hK K; clear hK K; refine hK _ _ ?_; clear hK K) | (clear hK K; clear hK K; clear hK K; clear hK K; refine hK _ _ ?_; clear hK K) | (clear hK K; clear hK K; clear hK K; clear hK K; clear hK K; refine hK _ _ ?_; clear hK K) | skip)) | (refine o_binT rfl rfl rfl rfl ?_ ?_ <;> intro _))
          refine o_callv rfl rfl rfl ((hen.ext hl.done).at (by omega) (j + 1) (by omega)) ?_
          rintro _ _ ⟨rfl, rfl⟩
          repeat' (first | refine o_mov rfl (by conv => lhs; whnf) ?_ | refine o_asg rfl (by conv => lhs; whnf) ?_ | refine o_binN rfl rfl rfl rfl (by omega) ?_ | refine o_notb rfl rfl ?_ | refine o_fa rfl rfl rfl ?_ | refine o_ext rfl rfl (by conv => lhs; whnf) ?_ | refine o_lens rfl rfl rfl ?_ | refine o_pick_t rfl rfl (by conv => lhs; whnf) ?_ | refine o_pick_f rfl rfl (by conv => lhs; whnf) ?_ | refine o_not rfl ?_ | (refine o_nil (hK _ _ ?_); clear hK K) | refine wk_reg ?_ | refine wk_seq fun K hK => ?_ | (refine wk_skip (hK _ _ ?_); clear hK K) | (refine wk_label (hK _ _ ?_); clear hK K) | refine wk_scope ?_ | refine wk_block ?_ | refine wk_cond_t rfl ?_ | refine wk_cond_f rfl ?_ | (refine wk_exit ?_; (repeat (refine blockK_other rfl ?_)); refine blockK_same ?_; (first | (refine hK _ _ ?_; clear hK K) | (clear hK K; refine hK _ _ ?_; clear hK K) | (clear hK K; clear hK K; refine hK _ _ ?_; clear hK K) | (clear hK K; clear hK K; clear hK K; refine hK _ _ ?_; clear hK K) | (clear hK K; clear hK K; clear hK K; clear hK K; refine hK _ _ ?_; clear hK K) | (clear hK K; clear hK K; clear hK K; clear hK K; clear hK K; refine hK _ _ ?_; clear hK K) | skip)) | (refine o_binT rfl rfl rfl rfl ?_ ?_ <;> intro _))
          exact o_nil ⟨j + 1, ⟨rfl, rfl, rfl, rfl, rfl, rfl, rfl, trivial⟩, rfl, ⟨⟨by omega, hst.1, by omega⟩, hl⟩, by omega⟩
      have hst := word_stop (s := text) (j := j) (by omega) (by omega) (by omega)
      have ho : one (text.drop i) = ⟨1, j - i, 0, if 24 < j - i then 2 else 0⟩ := by
        rw [hst] at hj3
        unfold one
        rw [hhd, h3]
        simp only [hj3, Nat.add_zero]
      refine o_store hl 0 [.int .i64 1] rfl rfl rfl rfl rfl (by simp) rfl ?_
      intro w4 hl4
      repeat' (first | refine o_mov rfl (by conv => lhs; whnf) ?_ | refine o_asg rfl (by conv => lhs; whnf) ?_ | refine o_binN rfl rfl rfl rfl (by omega) ?_ | refine o_notb rfl rfl ?_ | refine o_fa rfl rfl rfl ?_ | refine o_ext rfl rfl (by conv => lhs; whnf) ?_ | refine o_lens rfl rfl rfl ?_ | refine o_pick_t rfl rfl (by conv => lhs; whnf) ?_ | refine o_pick_f rfl rfl (by conv => lhs; whnf) ?_ | refine o_not rfl ?_ | (refine o_nil (hK _ _ ?_); clear hK K) | refine wk_reg ?_ | refine wk_seq fun K hK => ?_ | (refine wk_skip (hK _ _ ?_); clear hK K) | (refine wk_label (hK _ _ ?_); clear hK K) | refine wk_scope ?_ | refine wk_block ?_ | refine wk_cond_t rfl ?_ | refine wk_cond_f rfl ?_ | (refine wk_exit ?_; (repeat (refine blockK_other rfl ?_)); refine blockK_same ?_; (first | (refine hK _ _ ?_; clear hK K) | (clear hK K; refine hK _ _ ?_; clear hK K) | (clear hK K; clear hK K; refine hK _ _ ?_; clear hK K) | (clear hK K; clear hK K; clear hK K; refine hK _ _ ?_; clear hK K) | (clear hK K; clear hK K; clear hK K; clear hK K; refine hK _ _ ?_; clear hK K) | (clear hK K; clear hK K; clear hK K; clear hK K; clear hK K; refine hK _ _ ?_; clear hK K) | skip)) | (refine o_binT rfl rfl rfl rfl ?_ ?_ <;> intro _))
      · refine o_store hl4 0 [.int .i64 2] rfl rfl rfl rfl rfl (by simp [putL]) rfl ?_
        intro w5 hl5
        have h24 : 24 < j - i := by omega
        rw [if_pos h24] at ho
        refine o_nil ⟨(), ?_, rfl, hs1, ?_⟩
        · rw [ho]; refine ⟨rfl, rfl, rfl, ?_, rfl, rfl, trivial⟩
          show Value.int _ _ = Value.int _ _
          congr 1 <;> (simp only; omega)
        · rw [ho]; exact hl5
      · have h24 : ¬ 24 < j - i := by omega
        rw [if_neg h24] at ho
        refine wk_skip ⟨(), ?_, rfl, hs1, ?_⟩
        · rw [ho]; refine ⟨rfl, rfl, rfl, ?_, rfl, rfl, trivial⟩
          show Value.int _ _ = Value.int _ _
          congr 1 <;> (simp only; omega)
        · rw [ho]; exact hl4
    · -- digits
      have h4 : cls text[i] = 4 := by omega
      have hs1 : skip false (text.drop i) = text.drop i := skip_here hlt (by omega) (by omega)
      refine wk_loopH [] rfl (fun j : Nat => [(0, fv), (1, .pointer (some ⟨bt, 0, none⟩)), (2, .pointer (some ⟨bf, 0, none⟩)), (4, .int .i64 (j : Int)), (5, .int .i64 (i : Int)), (6, .pointer (some ⟨f, 0, none⟩))]) (fun j w' => (i ≤ j ∧ j ≤ text.length ∧ spanLen isDigit (text.drop i) = (j - i) + spanLen isDigit (text.drop j)) ∧ LH w0 (fun _ => False) w' [(f, .cells #[.int .i64 0, .string ⟨#[]⟩, .int .i64 0, .int .i64 (i : Int), .int .i64 0] 184 (0, 0))]) (fun j => text.length - j) i ⟨rfl, rfl, rfl, rfl, rfl, rfl, trivial⟩ ⟨⟨Nat.le_refl _, hi, by omega⟩, hl⟩ ?_
      clear hl
      rintro j t3 w3 ⟨⟨hj1, hj2, hj3⟩, hl⟩
      repeat' (first | refine o_mov rfl (by conv => lhs; whnf) ?_ | refine o_asg rfl (by conv => lhs; whnf) ?_ | refine o_binN rfl rfl rfl rfl (by omega) ?_ | refine o_notb rfl rfl ?_ | refine o_fa rfl rfl rfl ?_ | refine o_ext rfl rfl (by conv => lhs; whnf) ?_ | refine o_lens rfl rfl rfl ?_ | refine o_pick_t rfl rfl (by conv => lhs; whnf) ?_ | refine o_pick_f rfl rfl (by conv => lhs; whnf) ?_ | refine o_not rfl ?_ | (refine o_nil (hK _ _ ?_); clear hK K) | refine wk_reg ?_ | refine wk_seq fun K hK => ?_ | (refine wk_skip (hK _ _ ?_); clear hK K) | (refine wk_label (hK _ _ ?_); clear hK K) | refine wk_scope ?_ | refine wk_block ?_ | refine wk_cond_t rfl ?_ | refine wk_cond_f rfl ?_ | (refine wk_exit ?_; (repeat (refine blockK_other rfl ?_)); refine blockK_same ?_; (first | (refine hK _ _ ?_; clear hK K) | (clear hK K; refine hK _ _ ?_; clear hK K) | (clear hK K; clear hK K; refine hK _ _ ?_; clear hK K) | (clear hK K; clear hK K; clear hK K; refine hK _ _ ?_; clear hK K) | (clear hK K; clear hK K; clear hK K; clear hK K; refine hK _ _ ?_; clear hK K) | (clear hK K; clear hK K; clear hK K; clear hK K; clear hK K; refine hK _ _ ?_; clear hK K) | skip)) | (refine o_binT rfl rfl rfl rfl ?_ ?_ <;> intro _))
      refine o_load rfl rfl rfl (hen.ext hl.done).hf ?_
      repeat' (first | refine o_mov rfl (by conv => lhs; whnf) ?_ | refine o_asg rfl (by conv => lhs; whnf) ?_ | refine o_binN rfl rfl rfl rfl (by omega) ?_ | refine o_notb rfl rfl ?_ | refine o_fa rfl rfl rfl ?_ | refine o_ext rfl rfl (by conv => lhs; whnf) ?_ | refine o_lens rfl rfl rfl ?_ | refine o_pick_t rfl rfl (by conv => lhs; whnf) ?_ | refine o_pick_f rfl rfl (by conv => lhs; whnf) ?_ | refine o_not rfl ?_ | (refine o_nil (hK _ _ ?_); clear hK K) | refine wk_reg ?_ | refine wk_seq fun K hK => ?_ | (refine wk_skip (hK _ _ ?_); clear hK K) | (refine wk_label (hK _ _ ?_); clear hK K) | refine wk_scope ?_ | refine wk_block ?_ | refine wk_cond_t rfl ?_ | refine wk_cond_f rfl ?_ | (refine wk_exit ?_; (repeat (refine blockK_other rfl ?_)); refine blockK_same ?_; (first | (refine hK _ _ ?_; clear hK K) | (clear hK K; refine hK _ _ ?_; clear hK K) | (clear hK K; clear hK K; refine hK _ _ ?_; clear hK K) | (clear hK K; clear hK K; clear hK K; refine hK _ _ ?_; clear hK K) | (clear hK K; clear hK K; clear hK K; clear hK K; refine hK _ _ ?_; clear hK K) | (clear hK K; clear hK K; clear hK K; clear hK K; clear hK K; refine hK _ _ ?_; clear hK K) | skip)) | (refine o_binT rfl rfl rfl rfl ?_ ?_ <;> intro _))
      refine o_callv rfl rfl rfl ((hen.ext hl.done).at (by omega) j (by omega)) ?_
      rintro _ _ ⟨rfl, rfl⟩
      repeat' (first | refine o_mov rfl (by conv => lhs; whnf) ?_ | refine o_asg rfl (by conv => lhs; whnf) ?_ | refine o_binN rfl rfl rfl rfl (by omega) ?_ | refine o_notb rfl rfl ?_ | refine o_fa rfl rfl rfl ?_ | refine o_ext rfl rfl (by conv => lhs; whnf) ?_ | refine o_lens rfl rfl rfl ?_ | refine o_pick_t rfl rfl (by conv => lhs; whnf) ?_ | refine o_pick_f rfl rfl (by conv => lhs; whnf) ?_ | refine o_not rfl ?_ | (refine o_nil (hK _ _ ?_); clear hK K) | refine wk_reg ?_ | refine wk_seq fun K hK => ?_ | (refine wk_skip (hK _ _ ?_); clear hK K) | (refine wk_label (hK _ _ ?_); clear hK K) | refine wk_scope ?_ | refine wk_block ?_ | refine wk_cond_t rfl ?_ | refine wk_cond_f rfl ?_ | (refine wk_exit ?_; (repeat (refine blockK_other rfl ?_)); refine blockK_same ?_; (first | (refine hK _ _ ?_; clear hK K) | (clear hK K; refine hK _ _ ?_; clear hK K) | (clear hK K; clear hK K; refine hK _ _ ?_; clear hK K) | (clear hK K; clear hK K; clear hK K; refine hK _ _ ?_; clear hK K) | (clear hK K; clear hK K; clear hK K; clear hK K; refine hK _ _ ?_; clear hK K) | (clear hK K; clear hK K; clear hK K; clear hK K; clear hK K; refine hK _ _ ?_; clear hK K) | skip)) | (refine o_binT rfl rfl rfl rfl ?_ ?_ <;> intro _))
      · have hst := digit_step (s := text) (j := j) (by omega)
        exact o_nil ⟨j + 1, ⟨rfl, rfl, rfl, rfl, rfl, rfl, trivial⟩, rfl, ⟨⟨by omega, hst.1, by omega⟩, hl⟩, by omega⟩
      have hst := digit_stop (s := text) (j := j) (by omega)
      rw [hst] at hj3
      have hst1 := digit_step (s := text) (j := i) (by omega)
      have hij : i < j := by omega
      have ho : one (text.drop i) = if 7 < j - i ∨ hd (text.drop j) = 3 ∨ hd (text.drop j) = 5 then ⟨2, j - i, 0, 4⟩ else ⟨2, j - i, value ((text.drop i).take (j - i)), 0⟩ := by
        unfold one
        rw [hhd, h4]
        simp only [hj3, Nat.add_zero, List.drop_drop, show i + (j - i) = j by omega]
      refine o_store hl 0 [.int .i64 2] rfl rfl rfl rfl rfl (by simp) rfl ?_
      intro w4 hl4
      repeat' (first | refine o_mov rfl (by conv => lhs; whnf) ?_ | refine o_asg rfl (by conv => lhs; whnf) ?_ | refine o_binN rfl rfl rfl rfl (by omega) ?_ | refine o_notb rfl rfl ?_ | refine o_fa rfl rfl rfl ?_ | refine o_ext rfl rfl (by conv => lhs; whnf) ?_ | refine o_lens rfl rfl rfl ?_ | refine o_pick_t rfl rfl (by conv => lhs; whnf) ?_ | refine o_pick_f rfl rfl (by conv => lhs; whnf) ?_ | refine o_not rfl ?_ | (refine o_nil (hK _ _ ?_); clear hK K) | refine wk_reg ?_ | refine wk_seq fun K hK => ?_ | (refine wk_skip (hK _ _ ?_); clear hK K) | (refine wk_label (hK _ _ ?_); clear hK K) | refine wk_scope ?_ | refine wk_block ?_ | refine wk_cond_t rfl ?_ | refine wk_cond_f rfl ?_ | (refine wk_exit ?_; (repeat (refine blockK_other rfl ?_)); refine blockK_same ?_; (first | (refine hK _ _ ?_; clear hK K) | (clear hK K; refine hK _ _ ?_; clear hK K) | (clear hK K; clear hK K; refine hK _ _ ?_; clear hK K) | (clear hK K; clear hK K; clear hK K; refine hK _ _ ?_; clear hK K) | (clear hK K; clear hK K; clear hK K; clear hK K; refine hK _ _ ?_; clear hK K) | (clear hK K; clear hK K; clear hK K; clear hK K; clear hK K; refine hK _ _ ?_; clear hK K) | skip)) | (refine o_binT rfl rfl rfl rfl ?_ ?_ <;> intro _))
      refine o_load rfl rfl rfl (hen.ext hl4.done).hf ?_
      repeat' (first | refine o_mov rfl (by conv => lhs; whnf) ?_ | refine o_asg rfl (by conv => lhs; whnf) ?_ | refine o_binN rfl rfl rfl rfl (by omega) ?_ | refine o_notb rfl rfl ?_ | refine o_fa rfl rfl rfl ?_ | refine o_ext rfl rfl (by conv => lhs; whnf) ?_ | refine o_lens rfl rfl rfl ?_ | refine o_pick_t rfl rfl (by conv => lhs; whnf) ?_ | refine o_pick_f rfl rfl (by conv => lhs; whnf) ?_ | refine o_not rfl ?_ | (refine o_nil (hK _ _ ?_); clear hK K) | refine wk_reg ?_ | refine wk_seq fun K hK => ?_ | (refine wk_skip (hK _ _ ?_); clear hK K) | (refine wk_label (hK _ _ ?_); clear hK K) | refine wk_scope ?_ | refine wk_block ?_ | refine wk_cond_t rfl ?_ | refine wk_cond_f rfl ?_ | (refine wk_exit ?_; (repeat (refine blockK_other rfl ?_)); refine blockK_same ?_; (first | (refine hK _ _ ?_; clear hK K) | (clear hK K; refine hK _ _ ?_; clear hK K) | (clear hK K; clear hK K; refine hK _ _ ?_; clear hK K) | (clear hK K; clear hK K; clear hK K; refine hK _ _ ?_; clear hK K) | (clear hK K; clear hK K; clear hK K; clear hK K; refine hK _ _ ?_; clear hK K) | (clear hK K; clear hK K; clear hK K; clear hK K; clear hK K; refine hK _ _ ?_; clear hK K) | skip)) | (refine o_binT rfl rfl rfl rfl ?_ ?_ <;> intro _))
      refine o_callv rfl rfl rfl ((hen.ext hl4.done).at (by omega) j (by omega)) ?_
      rintro _ _ ⟨rfl, rfl⟩
      repeat' (first | refine o_mov rfl (by conv => lhs; whnf) ?_ | refine o_asg rfl (by conv => lhs; whnf) ?_ | refine o_binN rfl rfl rfl rfl (by omega) ?_ | refine o_notb rfl rfl ?_ | refine o_fa rfl rfl rfl ?_ | refine o_ext rfl rfl (by conv => lhs; whnf) ?_ | refine o_lens rfl rfl rfl ?_ | refine o_pick_t rfl rfl (by conv => lhs; whnf) ?_ | refine o_pick_f rfl rfl (by conv => lhs; whnf) ?_ | refine o_not rfl ?_ | (refine o_nil (hK _ _ ?_); clear hK K) | refine wk_reg ?_ | refine wk_seq fun K hK => ?_ | (refine wk_skip (hK _ _ ?_); clear hK K) | (refine wk_label (hK _ _ ?_); clear hK K) | refine wk_scope ?_ | refine wk_block ?_ | refine wk_cond_t rfl ?_ | refine wk_cond_f rfl ?_ | (refine wk_exit ?_; (repeat (refine blockK_other rfl ?_)); refine blockK_same ?_; (first | (refine hK _ _ ?_; clear hK K) | (clear hK K; refine hK _ _ ?_; clear hK K) | (clear hK K; clear hK K; refine hK _ _ ?_; clear hK K) | (clear hK K; clear hK K; clear hK K; refine hK _ _ ?_; clear hK K) | (clear hK K; clear hK K; clear hK K; clear hK K; refine hK _ _ ?_; clear hK K) | (clear hK K; clear hK K; clear hK K; clear hK K; clear hK K; refine hK _ _ ?_; clear hK K) | skip)) | (refine o_binT rfl rfl rfl rfl ?_ ?_ <;> intro _))
      iterate 3
        · refine o_store hl4 0 [.int .i64 4] rfl rfl rfl rfl rfl (by simp [putL]) rfl ?_
          intro w5 hl5
          rw [if_pos (by omega)] at ho
          refine o_nil ⟨(), ?_, rfl, hs1, ?_⟩
          · rw [ho]; refine ⟨rfl, rfl, rfl, ?_, rfl, rfl, trivial⟩
            show Value.int _ _ = Value.int _ _
            congr 1 <;> (simp only; omega)
          · rw [ho]; exact hl5
      rw [if_neg (by omega)] at ho
      refine o_load rfl rfl rfl (hen.ext hl4.done).ht ?_
      repeat' (first | refine o_mov rfl (by conv => lhs; whnf) ?_ | refine o_asg rfl (by conv => lhs; whnf) ?_ | refine o_binN rfl rfl rfl rfl (by omega) ?_ | refine o_notb rfl rfl ?_ | refine o_fa rfl rfl rfl ?_ | refine o_ext rfl rfl (by conv => lhs; whnf) ?_ | refine o_lens rfl rfl rfl ?_ | refine o_pick_t rfl rfl (by conv => lhs; whnf) ?_ | refine o_pick_f rfl rfl (by conv => lhs; whnf) ?_ | refine o_not rfl ?_ | (refine o_nil (hK _ _ ?_); clear hK K) | refine wk_reg ?_ | refine wk_seq fun K hK => ?_ | (refine wk_skip (hK _ _ ?_); clear hK K) | (refine wk_label (hK _ _ ?_); clear hK K) | refine wk_scope ?_ | refine wk_block ?_ | refine wk_cond_t rfl ?_ | refine wk_cond_f rfl ?_ | (refine wk_exit ?_; (repeat (refine blockK_other rfl ?_)); refine blockK_same ?_; (first | (refine hK _ _ ?_; clear hK K) | (clear hK K; refine hK _ _ ?_; clear hK K) | (clear hK K; clear hK K; refine hK _ _ ?_; clear hK K) | (clear hK K; clear hK K; clear hK K; refine hK _ _ ?_; clear hK K) | (clear hK K; clear hK K; clear hK K; clear hK K; refine hK _ _ ?_; clear hK K) | (clear hK K; clear hK K; clear hK K; clear hK K; clear hK K; refine hK _ _ ?_; clear hK K) | skip)) | (refine o_binT rfl rfl rfl rfl ?_ ?_ <;> intro _))
      refine o_cut2 i j (by omega) (by omega) rfl rfl rfl rfl rfl rfl rfl ?_
      have hcut : (text.take j).drop i = (text.drop i).take (j - i) := by rw [List.drop_take]
      have hln : ((text.drop i).take (j - i)).length = j - i := by rw [List.length_take, List.length_drop]; omega
      rw [hcut]
      have hdig : ∀ c ∈ (text.drop i).take (j - i), isDigit c = true := by
        have := span_all isDigit (text.drop i)
        rw [hj3] at this; exact this
      refine o_fn (atoi_calls _ hdig (by omega) (by omega) _) rfl (fun _ => rfl) rfl ?_
      rintro _ w5 ⟨rfl, he5⟩
      have hl5 := hl4.ext he5
      repeat' (first | refine o_mov rfl (by conv => lhs; whnf) ?_ | refine o_asg rfl (by conv => lhs; whnf) ?_ | refine o_binN rfl rfl rfl rfl (by omega) ?_ | refine o_notb rfl rfl ?_ | refine o_fa rfl rfl rfl ?_ | refine o_ext rfl rfl (by conv => lhs; whnf) ?_ | refine o_lens rfl rfl rfl ?_ | refine o_pick_t rfl rfl (by conv => lhs; whnf) ?_ | refine o_pick_f rfl rfl (by conv => lhs; whnf) ?_ | refine o_not rfl ?_ | (refine o_nil (hK _ _ ?_); clear hK K) | refine wk_reg ?_ | refine wk_seq fun K hK => ?_ | (refine wk_skip (hK _ _ ?_); clear hK K) | (refine wk_label (hK _ _ ?_); clear hK K) | refine wk_scope ?_ | refine wk_block ?_ | refine wk_cond_t rfl ?_ | refine wk_cond_f rfl ?_ | (refine wk_exit ?_; (repeat (refine blockK_other rfl ?_)); refine blockK_same ?_; (first | (refine hK _ _ ?_; clear hK K) | (clear hK K; refine hK _ _ ?_; clear hK K) | (clear hK K; clear hK K; refine hK _ _ ?_; clear hK K) | (clear hK K; clear hK K; clear hK K; refine hK _ _ ?_; clear hK K) | (clear hK K; clear hK K; clear hK K; clear hK K; refine hK _ _ ?_; clear hK K) | (clear hK K; clear hK K; clear hK K; clear hK K; clear hK K; refine hK _ _ ?_; clear hK K) | skip)) | (refine o_binT rfl rfl rfl rfl ?_ ?_ <;> intro _))
      refine o_store hl5 0 [.int .i64 (value ((text.drop i).take (j - i)) : Int)] rfl rfl rfl rfl rfl (by simp [putL]) rfl ?_
      intro w6 hl6
      refine o_nil ⟨(), ?_, rfl, hs1, ?_⟩
      · rw [ho]; refine ⟨rfl, rfl, rfl, ?_, rfl, rfl, trivial⟩
        show Value.int _ _ = Value.int _ _
        congr 1 <;> (simp only; omega)
      · rw [ho]; exact hl6
    · -- class 6
      have hk : cls text[i] = 6 := by omega
      have hs1 : skip false (text.drop i) = text.drop i := skip_here hlt (by omega) (by omega)
      have h61 : (text.drop i)[1]? = text[i + 1]? := by rw [List.getElem?_drop]
      refine o_store hl 0 [.int .i64 3] rfl rfl rfl rfl rfl (by simp) rfl ?_
      intro w4 hl4
      repeat' (first | refine o_mov rfl (by conv => lhs; whnf) ?_ | refine o_asg rfl (by conv => lhs; whnf) ?_ | refine o_binN rfl rfl rfl rfl (by omega) ?_ | refine o_notb rfl rfl ?_ | refine o_fa rfl rfl rfl ?_ | refine o_ext rfl rfl (by conv => lhs; whnf) ?_ | refine o_lens rfl rfl rfl ?_ | refine o_pick_t rfl rfl (by conv => lhs; whnf) ?_ | refine o_pick_f rfl rfl (by conv => lhs; whnf) ?_ | refine o_not rfl ?_ | (refine o_nil (hK _ _ ?_); clear hK K) | refine wk_reg ?_ | refine wk_seq fun K hK => ?_ | (refine wk_skip (hK _ _ ?_); clear hK K) | (refine wk_label (hK _ _ ?_); clear hK K) | refine wk_scope ?_ | refine wk_block ?_ | refine wk_cond_t rfl ?_ | refine wk_cond_f rfl ?_ | (refine wk_exit ?_; (repeat (refine blockK_other rfl ?_)); refine blockK_same ?_; (first | (refine hK _ _ ?_; clear hK K) | (clear hK K; refine hK _ _ ?_; clear hK K) | (clear hK K; clear hK K; refine hK _ _ ?_; clear hK K) | (clear hK K; clear hK K; clear hK K; refine hK _ _ ?_; clear hK K) | (clear hK K; clear hK K; clear hK K; clear hK K; refine hK _ _ ?_; clear hK K) | (clear hK K; clear hK K; clear hK K; clear hK K; clear hK K; refine hK _ _ ?_; clear hK K) | skip)) | (refine o_binT rfl rfl rfl rfl ?_ ?_ <;> intro _))
      refine o_load rfl rfl rfl (hen.ext hl4.done).hf ?_
      repeat' (first | refine o_mov rfl (by conv => lhs; whnf) ?_ | refine o_asg rfl (by conv => lhs; whnf) ?_ | refine o_binN rfl rfl rfl rfl (by omega) ?_ | refine o_notb rfl rfl ?_ | refine o_fa rfl rfl rfl ?_ | refine o_ext rfl rfl (by conv => lhs; whnf) ?_ | refine o_lens rfl rfl rfl ?_ | refine o_pick_t rfl rfl (by conv => lhs; whnf) ?_ | refine o_pick_f rfl rfl (by conv => lhs; whnf) ?_ | refine o_not rfl ?_ | (refine o_nil (hK _ _ ?_); clear hK K) | refine wk_reg ?_ | refine wk_seq fun K hK => ?_ | (refine wk_skip (hK _ _ ?_); clear hK K) | (refine wk_label (hK _ _ ?_); clear hK K) | refine wk_scope ?_ | refine wk_block ?_ | refine wk_cond_t rfl ?_ | refine wk_cond_f rfl ?_ | (refine wk_exit ?_; (repeat (refine blockK_other rfl ?_)); refine blockK_same ?_; (first | (refine hK _ _ ?_; clear hK K) | (clear hK K; refine hK _ _ ?_; clear hK K) | (clear hK K; clear hK K; refine hK _ _ ?_; clear hK K) | (clear hK K; clear hK K; clear hK K; refine hK _ _ ?_; clear hK K) | (clear hK K; clear hK K; clear hK K; clear hK K; refine hK _ _ ?_; clear hK K) | (clear hK K; clear hK K; clear hK K; clear hK K; clear hK K; refine hK _ _ ?_; clear hK K) | skip)) | (refine o_binT rfl rfl rfl rfl ?_ ?_ <;> intro _))
      refine o_callv rfl rfl rfl ((hen.ext hl4.done).at (by omega) i (by omega)) ?_
      rintro _ _ ⟨rfl, rfl⟩
      rw [hhd]
      repeat' (first | refine o_mov rfl (by conv => lhs; whnf) ?_ | refine o_asg rfl (by conv => lhs; whnf) ?_ | refine o_binN rfl rfl rfl rfl (by omega) ?_ | refine o_notb rfl rfl ?_ | refine o_fa rfl rfl rfl ?_ | refine o_ext rfl rfl (by conv => lhs; whnf) ?_ | refine o_lens rfl rfl rfl ?_ | refine o_pick_t rfl rfl (by conv => lhs; whnf) ?_ | refine o_pick_f rfl rfl (by conv => lhs; whnf) ?_ | refine o_not rfl ?_ | (refine o_nil (hK _ _ ?_); clear hK K) | refine wk_reg ?_ | refine wk_seq fun K hK => ?_ | (refine wk_skip (hK _ _ ?_); clear hK K) | (refine wk_label (hK _ _ ?_); clear hK K) | refine wk_scope ?_ | refine wk_block ?_ | refine wk_cond_t rfl ?_ | refine wk_cond_f rfl ?_ | (refine wk_exit ?_; (repeat (refine blockK_other rfl ?_)); refine blockK_same ?_; (first | (refine hK _ _ ?_; clear hK K) | (clear hK K; refine hK _ _ ?_; clear hK K) | (clear hK K; clear hK K; refine hK _ _ ?_; clear hK K) | (clear hK K; clear hK K; clear hK K; refine hK _ _ ?_; clear hK K) | (clear hK K; clear hK K; clear hK K; clear hK K; refine hK _ _ ?_; clear hK K) | (clear hK K; clear hK K; clear hK K; clear hK K; clear hK K; refine hK _ _ ?_; clear hK K) | skip)) | (refine o_binT rfl rfl rfl rfl ?_ ?_ <;> intro _))
      any_goals (exfalso; omega)
      have ho : one (text.drop i) = ⟨3, 1, 0, 0⟩ := by simp only [one, hhd, hk]
      refine wk_skip ⟨(), ?_, rfl, hs1, ?_⟩
      · rw [ho]; refine ⟨rfl, rfl, rfl, ?_, rfl, rfl, trivial⟩
        show Value.int _ _ = Value.int _ _
        congr 1 <;> (simp only; omega)
      · rw [ho]; exact hl4
    · -- class 7
      have hk : cls text[i] = 7 := by omega
      have hs1 : skip false (text.drop i) = text.drop i := skip_here hlt (by omega) (by omega)
      have h61 : (text.drop i)[1]? = text[i + 1]? := by rw [List.getElem?_drop]
      refine o_store hl 0 [.int .i64 3] rfl rfl rfl rfl rfl (by simp) rfl ?_
      intro w4 hl4
      repeat' (first | refine o_mov rfl (by conv => lhs; whnf) ?_ | refine o_asg rfl (by conv => lhs; whnf) ?_ | refine o_binN rfl rfl rfl rfl (by omega) ?_ | refine o_notb rfl rfl ?_ | refine o_fa rfl rfl rfl ?_ | refine o_ext rfl rfl (by conv => lhs; whnf) ?_ | refine o_lens rfl rfl rfl ?_ | refine o_pick_t rfl rfl (by conv => lhs; whnf) ?_ | refine o_pick_f rfl rfl (by conv => lhs; whnf) ?_ | refine o_not rfl ?_ | (refine o_nil (hK _ _ ?_); clear hK K) | refine wk_reg ?_ | refine wk_seq fun K hK => ?_ | (refine wk_skip (hK _ _ ?_); clear hK K) | (refine wk_label (hK _ _ ?_); clear hK K) | refine wk_scope ?_ | refine wk_block ?_ | refine wk_cond_t rfl ?_ | refine wk_cond_f rfl ?_ | (refine wk_exit ?_; (repeat (refine blockK_other rfl ?_)); refine blockK_same ?_; (first | (refine hK _ _ ?_; clear hK K) | (clear hK K; refine hK _ _ ?_; clear hK K) | (clear hK K; clear hK K; refine hK _ _ ?_; clear hK K) | (clear hK K; clear hK K; clear hK K; refine hK _ _ ?_; clear hK K) | (clear hK K; clear hK K; clear hK K; clear hK K; refine hK _ _ ?_; clear hK K) | (clear hK K; clear hK K; clear hK K; clear hK K; clear hK K; refine hK _ _ ?_; clear hK K) | skip)) | (refine o_binT rfl rfl rfl rfl ?_ ?_ <;> intro _))
      refine o_load rfl rfl rfl (hen.ext hl4.done).hf ?_
      repeat' (first | refine o_mov rfl (by conv => lhs; whnf) ?_ | refine o_asg rfl (by conv => lhs; whnf) ?_ | refine o_binN rfl rfl rfl rfl (by omega) ?_ | refine o_notb rfl rfl ?_ | refine o_fa rfl rfl rfl ?_ | refine o_ext rfl rfl (by conv => lhs; whnf) ?_ | refine o_lens rfl rfl rfl ?_ | refine o_pick_t rfl rfl (by conv => lhs; whnf) ?_ | refine o_pick_f rfl rfl (by conv => lhs; whnf) ?_ | refine o_not rfl ?_ | (refine o_nil (hK _ _ ?_); clear hK K) | refine wk_reg ?_ | refine wk_seq fun K hK => ?_ | (refine wk_skip (hK _ _ ?_); clear hK K) | (refine wk_label (hK _ _ ?_); clear hK K) | refine wk_scope ?_ | refine wk_block ?_ | refine wk_cond_t rfl ?_ | refine wk_cond_f rfl ?_ | (refine wk_exit ?_; (repeat (refine blockK_other rfl ?_)); refine blockK_same ?_; (first | (refine hK _ _ ?_; clear hK K) | (clear hK K; refine hK _ _ ?_; clear hK K) | (clear hK K; clear hK K; refine hK _ _ ?_; clear hK K) | (clear hK K; clear hK K; clear hK K; refine hK _ _ ?_; clear hK K) | (clear hK K; clear hK K; clear hK K; clear hK K; refine hK _ _ ?_; clear hK K) | (clear hK K; clear hK K; clear hK K; clear hK K; clear hK K; refine hK _ _ ?_; clear hK K) | skip)) | (refine o_binT rfl rfl rfl rfl ?_ ?_ <;> intro _))
      refine o_callv rfl rfl rfl ((hen.ext hl4.done).at (by omega) i (by omega)) ?_
      rintro _ _ ⟨rfl, rfl⟩
      rw [hhd]
      repeat' (first | refine o_mov rfl (by conv => lhs; whnf) ?_ | refine o_asg rfl (by conv => lhs; whnf) ?_ | refine o_binN rfl rfl rfl rfl (by omega) ?_ | refine o_notb rfl rfl ?_ | refine o_fa rfl rfl rfl ?_ | refine o_ext rfl rfl (by conv => lhs; whnf) ?_ | refine o_lens rfl rfl rfl ?_ | refine o_pick_t rfl rfl (by conv => lhs; whnf) ?_ | refine o_pick_f rfl rfl (by conv => lhs; whnf) ?_ | refine o_not rfl ?_ | (refine o_nil (hK _ _ ?_); clear hK K) | refine wk_reg ?_ | refine wk_seq fun K hK => ?_ | (refine wk_skip (hK _ _ ?_); clear hK K) | (refine wk_label (hK _ _ ?_); clear hK K) | refine wk_scope ?_ | refine wk_block ?_ | refine wk_cond_t rfl ?_ | refine wk_cond_f rfl ?_ | (refine wk_exit ?_; (repeat (refine blockK_other rfl ?_)); refine blockK_same ?_; (first | (refine hK _ _ ?_; clear hK K) | (clear hK K; refine hK _ _ ?_; clear hK K) | (clear hK K; clear hK K; refine hK _ _ ?_; clear hK K) | (clear hK K; clear hK K; clear hK K; refine hK _ _ ?_; clear hK K) | (clear hK K; clear hK K; clear hK K; clear hK K; refine hK _ _ ?_; clear hK K) | (clear hK K; clear hK K; clear hK K; clear hK K; clear hK K; refine hK _ _ ?_; clear hK K) | skip)) | (refine o_binT rfl rfl rfl rfl ?_ ?_ <;> intro _))
      any_goals (exfalso; omega)
      have ho1 : one (text.drop i) = ⟨3, if text[i + 1]? = some 61 then 2 else 1, 0, 0⟩ := by simp only [one, hhd, hk, h61]
      refine o_load rfl rfl rfl (hen.ext hl4.done).ht ?_
      repeat' (first | refine o_mov rfl (by conv => lhs; whnf) ?_ | refine o_asg rfl (by conv => lhs; whnf) ?_ | refine o_binN rfl rfl rfl rfl (by omega) ?_ | refine o_notb rfl rfl ?_ | refine o_fa rfl rfl rfl ?_ | refine o_ext rfl rfl (by conv => lhs; whnf) ?_ | refine o_lens rfl rfl rfl ?_ | refine o_pick_t rfl rfl (by conv => lhs; whnf) ?_ | refine o_pick_f rfl rfl (by conv => lhs; whnf) ?_ | refine o_not rfl ?_ | (refine o_nil (hK _ _ ?_); clear hK K) | refine wk_reg ?_ | refine wk_seq fun K hK => ?_ | (refine wk_skip (hK _ _ ?_); clear hK K) | (refine wk_label (hK _ _ ?_); clear hK K) | refine wk_scope ?_ | refine wk_block ?_ | refine wk_cond_t rfl ?_ | refine wk_cond_f rfl ?_ | (refine wk_exit ?_; (repeat (refine blockK_other rfl ?_)); refine blockK_same ?_; (first | (refine hK _ _ ?_; clear hK K) | (clear hK K; refine hK _ _ ?_; clear hK K) | (clear hK K; clear hK K; refine hK _ _ ?_; clear hK K) | (clear hK K; clear hK K; clear hK K; refine hK _ _ ?_; clear hK K) | (clear hK K; clear hK K; clear hK K; clear hK K; refine hK _ _ ?_; clear hK K) | (clear hK K; clear hK K; clear hK K; clear hK K; clear hK K; refine hK _ _ ?_; clear hK K) | skip)) | (refine o_binT rfl rfl rfl rfl ?_ ?_ <;> intro _))
      any_goals (exfalso; omega)
      · have hl1 : i + 1 < text.length := by omega
        have hg : text[i + 1]? = some text[i + 1] := by simp [hl1]
        refine o_load rfl rfl rfl (hen.ext hl4.done).ht ?_
        repeat' (first | refine o_mov rfl (by conv => lhs; whnf) ?_ | refine o_asg rfl (by conv => lhs; whnf) ?_ | refine o_binN rfl rfl rfl rfl (by omega) ?_ | refine o_notb rfl rfl ?_ | refine o_fa rfl rfl rfl ?_ | refine o_ext rfl rfl (by conv => lhs; whnf) ?_ | refine o_lens rfl rfl rfl ?_ | refine o_pick_t rfl rfl (by conv => lhs; whnf) ?_ | refine o_pick_f rfl rfl (by conv => lhs; whnf) ?_ | refine o_not rfl ?_ | (refine o_nil (hK _ _ ?_); clear hK K) | refine wk_reg ?_ | refine wk_seq fun K hK => ?_ | (refine wk_skip (hK _ _ ?_); clear hK K) | (refine wk_label (hK _ _ ?_); clear hK K) | refine wk_scope ?_ | refine wk_block ?_ | refine wk_cond_t rfl ?_ | refine wk_cond_f rfl ?_ | (refine wk_exit ?_; (repeat (refine blockK_other rfl ?_)); refine blockK_same ?_; (first | (refine hK _ _ ?_; clear hK K) | (clear hK K; refine hK _ _ ?_; clear hK K) | (clear hK K; clear hK K; refine hK _ _ ?_; clear hK K) | (clear hK K; clear hK K; clear hK K; refine hK _ _ ?_; clear hK K) | (clear hK K; clear hK K; clear hK K; clear hK K; refine hK _ _ ?_; clear hK K) | (clear hK K; clear hK K; clear hK K; clear hK K; clear hK K; refine hK _ _ ?_; clear hK K) | skip)) | (refine o_binT rfl rfl rfl rfl ?_ ?_ <;> intro _))
        refine o_index (c := text[i + 1]) (i + 1) rfl rfl rfl rfl rfl hg ?_
        repeat' (first | refine o_mov rfl (by conv => lhs; whnf) ?_ | refine o_asg rfl (by conv => lhs; whnf) ?_ | refine o_binN rfl rfl rfl rfl (by omega) ?_ | refine o_notb rfl rfl ?_ | refine o_fa rfl rfl rfl ?_ | refine o_ext rfl rfl (by conv => lhs; whnf) ?_ | refine o_lens rfl rfl rfl ?_ | refine o_pick_t rfl rfl (by conv => lhs; whnf) ?_ | refine o_pick_f rfl rfl (by conv => lhs; whnf) ?_ | refine o_not rfl ?_ | (refine o_nil (hK _ _ ?_); clear hK K) | refine wk_reg ?_ | refine wk_seq fun K hK => ?_ | (refine wk_skip (hK _ _ ?_); clear hK K) | (refine wk_label (hK _ _ ?_); clear hK K) | refine wk_scope ?_ | refine wk_block ?_ | refine wk_cond_t rfl ?_ | refine wk_cond_f rfl ?_ | (refine wk_exit ?_; (repeat (refine blockK_other rfl ?_)); refine blockK_same ?_; (first | (refine hK _ _ ?_; clear hK K) | (clear hK K; refine hK _ _ ?_; clear hK K) | (clear hK K; clear hK K; refine hK _ _ ?_; clear hK K) | (clear hK K; clear hK K; clear hK K; refine hK _ _ ?_; clear hK K) | (clear hK K; clear hK K; clear hK K; clear hK K; refine hK _ _ ?_; clear hK K) | (clear hK K; clear hK K; clear hK K; clear hK K; clear hK K; refine hK _ _ ?_; clear hK K) | skip)) | (refine o_binT rfl rfl rfl rfl ?_ ?_ <;> intro _))
        any_goals (exfalso; omega)
        · have he : text[i + 1] = 61 := by
            apply UInt8.toNat_inj.1
            show _ = 61
            omega
          have ho : one (text.drop i) = ⟨3, 2, 0, 0⟩ := by rw [ho1, hg, he]; rfl
          refine o_nil ⟨(), ?_, rfl, hs1, ?_⟩
          · rw [ho]; refine ⟨rfl, rfl, rfl, ?_, rfl, rfl, trivial⟩
            show Value.int _ _ = Value.int _ _
            congr 1 <;> (simp only; omega)
          · rw [ho]; exact hl4

        · have hne : text[i + 1].toNat ≠ 61 := by omega
          have he : text[i + 1]? ≠ some 61 := by
            rw [hg]; intro h; injection h with h; exact hne (by rw [h]; rfl)
          rw [if_neg he] at ho1
          have ho := ho1
          refine wk_skip ⟨(), ?_, rfl, hs1, ?_⟩
          · rw [ho]; refine ⟨rfl, rfl, rfl, ?_, rfl, rfl, trivial⟩
            show Value.int _ _ = Value.int _ _
            congr 1 <;> (simp only; omega)
          · rw [ho]; exact hl4

      · have he : text[i + 1]? ≠ some 61 := by
          rw [List.getElem?_eq_none (by omega)]; simp
        rw [if_neg he] at ho1
        have ho := ho1
        refine wk_skip ⟨(), ?_, rfl, hs1, ?_⟩
        · rw [ho]; refine ⟨rfl, rfl, rfl, ?_, rfl, rfl, trivial⟩
          show Value.int _ _ = Value.int _ _
          congr 1 <;> (simp only; omega)
        · rw [ho]; exact hl4

    · -- class 8
      have hk : cls text[i] = 8 := by omega
      have hs1 : skip false (text.drop i) = text.drop i := skip_here hlt (by omega) (by omega)
      have h61 : (text.drop i)[1]? = text[i + 1]? := by rw [List.getElem?_drop]
      refine o_store hl 0 [.int .i64 3] rfl rfl rfl rfl rfl (by simp) rfl ?_
      intro w4 hl4
      repeat' (first | refine o_mov rfl (by conv => lhs; whnf) ?_ | refine o_asg rfl (by conv => lhs; whnf) ?_ | refine o_binN rfl rfl rfl rfl (by omega) ?_ | refine o_notb rfl rfl ?_ | refine o_fa rfl rfl rfl ?_ | refine o_ext rfl rfl (by conv => lhs; whnf) ?_ | refine o_lens rfl rfl rfl ?_ | refine o_pick_t rfl rfl (by conv => lhs; whnf) ?_ | refine o_pick_f rfl rfl (by conv => lhs; whnf) ?_ | refine o_not rfl ?_ | (refine o_nil (hK _ _ ?_); clear hK K) | refine wk_reg ?_ | refine wk_seq fun K hK => ?_ | (refine wk_skip (hK _ _ ?_); clear hK K) | (refine wk_label (hK _ _ ?_); clear hK K) | refine wk_scope ?_ | refine wk_block ?_ | refine wk_cond_t rfl ?_ | refine wk_cond_f rfl ?_ | (refine wk_exit ?_; (repeat (refine blockK_other rfl ?_)); refine blockK_same ?_; (first | (refine hK _ _ ?_; clear hK K) | (clear hK K; refine hK _ _ ?_; clear hK K) | (clear hK K; clear hK K; refine hK _ _ ?_; clear hK K) | (clear hK K; clear hK K; clear hK K; refine hK _ _ ?_; clear hK K) | (clear hK K; clear hK K; clear hK K; clear hK K; refine hK _ _ ?_; clear hK K) | (clear hK K; clear hK K; clear hK K; clear hK K; clear hK K; refine hK _ _ ?_; clear hK K) | skip)) | (refine o_binT rfl rfl rfl rfl ?_ ?_ <;> intro _))
      refine o_load rfl rfl rfl (hen.ext hl4.done).hf ?_
      repeat' (first | refine o_mov rfl (by conv => lhs; whnf) ?_ | refine o_asg rfl (by conv => lhs; whnf) ?_ | refine o_binN rfl rfl rfl rfl (by omega) ?_ | refine o_notb rfl rfl ?_ | refine o_fa rfl rfl rfl ?_ | refine o_ext rfl rfl (by conv => lhs; whnf) ?_ | refine o_lens rfl rfl rfl ?_ | refine o_pick_t rfl rfl (by conv => lhs; whnf) ?_ | refine o_pick_f rfl rfl (by conv => lhs; whnf) ?_ | refine o_not rfl ?_ | (refine o_nil (hK _ _ ?_); clear hK K) | refine wk_reg ?_ | refine wk_seq fun K hK => ?_ | (refine wk_skip (hK _ _ ?_); clear hK K) | (refine wk_label (hK _ _ ?_); clear hK K) | refine wk_scope ?_ | refine wk_block ?_ | refine wk_cond_t rfl ?_ | refine wk_cond_f rfl ?_ | (refine wk_exit ?_; (repeat (refine blockK_other rfl ?_)); refine blockK_same ?_; (first | (refine hK _ _ ?_; clear hK K) | (clear hK K; refine hK _ _ ?_; clear hK K) | (clear hK K; clear hK K; refine hK _ _ ?_; clear hK K) | (clear hK K; clear hK K; clear hK K; refine hK _ _ ?_; clear hK K) | (clear hK K; clear hK K; clear hK K; clear hK K; refine hK _ _ ?_; clear hK K) | (clear hK K; clear hK K; clear hK K; clear hK K; clear hK K; refine hK _ _ ?_; clear hK K) | skip)) | (refine o_binT rfl rfl rfl rfl ?_ ?_ <;> intro _))
      refine o_callv rfl rfl rfl ((hen.ext hl4.done).at (by omega) i (by omega)) ?_
      rintro _ _ ⟨rfl, rfl⟩
      rw [hhd]
      repeat' (first | refine o_mov rfl (by conv => lhs; whnf) ?_ | refine o_asg rfl (by conv => lhs; whnf) ?_ | refine o_binN rfl rfl rfl rfl (by omega) ?_ | refine o_notb rfl rfl ?_ | refine o_fa rfl rfl rfl ?_ | refine o_ext rfl rfl (by conv => lhs; whnf) ?_ | refine o_lens rfl rfl rfl ?_ | refine o_pick_t rfl rfl (by conv => lhs; whnf) ?_ | refine o_pick_f rfl rfl (by conv => lhs; whnf) ?_ | refine o_not rfl ?_ | (refine o_nil (hK _ _ ?_); clear hK K) | refine wk_reg ?_ | refine wk_seq fun K hK => ?_ | (refine wk_skip (hK _ _ ?_); clear hK K) | (refine wk_label (hK _ _ ?_); clear hK K) | refine wk_scope ?_ | refine wk_block ?_ | refine wk_cond_t rfl ?_ | refine wk_cond_f rfl ?_ | (refine wk_exit ?_; (repeat (refine blockK_other rfl ?_)); refine blockK_same ?_; (first | (refine hK _ _ ?_; clear hK K) | (clear hK K; refine hK _ _ ?_; clear hK K) | (clear hK K; clear hK K; refine hK _ _ ?_; clear hK K) | (clear hK K; clear hK K; clear hK K; refine hK _ _ ?_; clear hK K) | (clear hK K; clear hK K; clear hK K; clear hK K; refine hK _ _ ?_; clear hK K) | (clear hK K; clear hK K; clear hK K; clear hK K; clear hK K; refine hK _ _ ?_; clear hK K) | skip)) | (refine o_binT rfl rfl rfl rfl ?_ ?_ <;> intro _))
      any_goals (exfalso; omega)
      have ho1 : one (text.drop i) = if text[i + 1]? = some 61 then ⟨3, 2, 0, 0⟩ else ⟨3, 1, 0, 3⟩ := by simp only [one, hhd, hk, h61]
      refine o_load rfl rfl rfl (hen.ext hl4.done).ht ?_
      repeat' (first | refine o_mov rfl (by conv => lhs; whnf) ?_ | refine o_asg rfl (by conv => lhs; whnf) ?_ | refine o_binN rfl rfl rfl rfl (by omega) ?_ | refine o_notb rfl rfl ?_ | refine o_fa rfl rfl rfl ?_ | refine o_ext rfl rfl (by conv => lhs; whnf) ?_ | refine o_lens rfl rfl rfl ?_ | refine o_pick_t rfl rfl (by conv => lhs; whnf) ?_ | refine o_pick_f rfl rfl (by conv => lhs; whnf) ?_ | refine o_not rfl ?_ | (refine o_nil (hK _ _ ?_); clear hK K) | refine wk_reg ?_ | refine wk_seq fun K hK => ?_ | (refine wk_skip (hK _ _ ?_); clear hK K) | (refine wk_label (hK _ _ ?_); clear hK K) | refine wk_scope ?_ | refine wk_block ?_ | refine wk_cond_t rfl ?_ | refine wk_cond_f rfl ?_ | (refine wk_exit ?_; (repeat (refine blockK_other rfl ?_)); refine blockK_same ?_; (first | (refine hK _ _ ?_; clear hK K) | (clear hK K; refine hK _ _ ?_; clear hK K) | (clear hK K; clear hK K; refine hK _ _ ?_; clear hK K) | (clear hK K; clear hK K; clear hK K; refine hK _ _ ?_; clear hK K) | (clear hK K; clear hK K; clear hK K; clear hK K; refine hK _ _ ?_; clear hK K) | (clear hK K; clear hK K; clear hK K; clear hK K; clear hK K; refine hK _ _ ?_; clear hK K) | skip)) | (refine o_binT rfl rfl rfl rfl ?_ ?_ <;> intro _))
      any_goals (exfalso; omega)
      · have hl1 : i + 1 < text.length := by omega
        have hg : text[i + 1]? = some text[i + 1] := by simp [hl1]
        refine o_load rfl rfl rfl (hen.ext hl4.done).ht ?_
        repeat' (first | refine o_mov rfl (by conv => lhs; whnf) ?_ | refine o_asg rfl (by conv => lhs; whnf) ?_ | refine o_binN rfl rfl rfl rfl (by omega) ?_ | refine o_notb rfl rfl ?_ | refine o_fa rfl rfl rfl ?_ | refine o_ext rfl rfl (by conv => lhs; whnf) ?_ | refine o_lens rfl rfl rfl ?_ | refine o_pick_t rfl rfl (by conv => lhs; whnf) ?_ | refine o_pick_f rfl rfl (by conv => lhs; whnf) ?_ | refine o_not rfl ?_ | (refine o_nil (hK _ _ ?_); clear hK K) | refine wk_reg ?_ | refine wk_seq fun K hK => ?_ | (refine wk_skip (hK _ _ ?_); clear hK K) | (refine wk_label (hK _ _ ?_); clear hK K) | refine wk_scope ?_ | refine wk_block ?_ | refine wk_cond_t rfl ?_ | refine wk_cond_f rfl ?_ | (refine wk_exit ?_; (repeat (refine blockK_other rfl ?_)); refine blockK_same ?_; (first | (refine hK _ _ ?_; clear hK K) | (clear hK K; refine hK _ _ ?_; clear hK K) | (clear hK K; clear hK K; refine hK _ _ ?_; clear hK K) | (clear hK K; clear hK K; clear hK K; refine hK _ _ ?_; clear hK K) | (clear hK K; clear hK K; clear hK K; clear hK K; refine hK _ _ ?_; clear hK K) | (clear hK K; clear hK K; clear hK K; clear hK K; clear hK K; refine hK _ _ ?_; clear hK K) | skip)) | (refine o_binT rfl rfl rfl rfl ?_ ?_ <;> intro _))
        refine o_index (c := text[i + 1]) (i + 1) rfl rfl rfl rfl rfl hg ?_
        repeat' (first | refine o_mov rfl (by conv => lhs; whnf) ?_ | refine o_asg rfl (by conv => lhs; whnf) ?_ | refine o_binN rfl rfl rfl rfl (by omega) ?_ | refine o_notb rfl rfl ?_ | refine o_fa rfl rfl rfl ?_ | refine o_ext rfl rfl (by conv => lhs; whnf) ?_ | refine o_lens rfl rfl rfl ?_ | refine o_pick_t rfl rfl (by conv => lhs; whnf) ?_ | refine o_pick_f rfl rfl (by conv => lhs; whnf) ?_ | refine o_not rfl ?_ | (refine o_nil (hK _ _ ?_); clear hK K) | refine wk_reg ?_ | refine wk_seq fun K hK => ?_ | (refine wk_skip (hK _ _ ?_); clear hK K) | (refine wk_label (hK _ _ ?_); clear hK K) | refine wk_scope ?_ | refine wk_block ?_ | refine wk_cond_t rfl ?_ | refine wk_cond_f rfl ?_ | (refine wk_exit ?_; (repeat (refine blockK_other rfl ?_)); refine blockK_same ?_; (first | (refine hK _ _ ?_; clear hK K) | (clear hK K; refine hK _ _ ?_; clear hK K) | (clear hK K; clear hK K; refine hK _ _ ?_; clear hK K) | (clear hK K; clear hK K; clear hK K; refine hK _ _ ?_; clear hK K) | (clear hK K; clear hK K; clear hK K; clear hK K; refine hK _ _ ?_; clear hK K) | (clear hK K; clear hK K; clear hK K; clear hK K; clear hK K; refine hK _ _ ?_; clear hK K) | skip)) | (refine o_binT rfl rfl rfl rfl ?_ ?_ <;> intro _))
        any_goals (exfalso; omega)
        · have he : text[i + 1] = 61 := by
            apply UInt8.toNat_inj.1
            show _ = 61
            omega
          have ho : one (text.drop i) = ⟨3, 2, 0, 0⟩ := by rw [ho1, hg, he]; rfl
          refine o_nil ⟨(), ?_, rfl, hs1, ?_⟩
          · rw [ho]; refine ⟨rfl, rfl, rfl, ?_, rfl, rfl, trivial⟩
            show Value.int _ _ = Value.int _ _
            congr 1 <;> (simp only; omega)
          · rw [ho]; exact hl4

        · have hne : text[i + 1].toNat ≠ 61 := by omega
          have he : text[i + 1]? ≠ some 61 := by
            rw [hg]; intro h; injection h with h; exact hne (by rw [h]; rfl)
          rw [if_neg he] at ho1
          have ho := ho1
          refine o_store hl4 0 [.int .i64 3] rfl rfl rfl rfl rfl (by simp [putL]) rfl ?_
          intro w5 hl5
          refine o_nil ⟨(), ?_, rfl, hs1, ?_⟩
          · rw [ho]; refine ⟨rfl, rfl, rfl, ?_, rfl, rfl, trivial⟩
            show Value.int _ _ = Value.int _ _
            congr 1 <;> (simp only; omega)
          · rw [ho]; exact hl5

      · have he : text[i + 1]? ≠ some 61 := by
          rw [List.getElem?_eq_none (by omega)]; simp
        rw [if_neg he] at ho1
        have ho := ho1
        refine o_store hl4 0 [.int .i64 3] rfl rfl rfl rfl rfl (by simp [putL]) rfl ?_
        intro w5 hl5
        refine o_nil ⟨(), ?_, rfl, hs1, ?_⟩
        · rw [ho]; refine ⟨rfl, rfl, rfl, ?_, rfl, rfl, trivial⟩
          show Value.int _ _ = Value.int _ _
          congr 1 <;> (simp only; omega)
        · rw [ho]; exact hl5

    · -- another byte
      have hs1 : skip false (text.drop i) = text.drop i := skip_here hlt (by omega) (by omega)
      have ho : one (text.drop i) = ⟨0, 0, 0, 3⟩ := by
        unfold one
        rw [hhd]
        split <;> first | rfl | (exfalso; omega)
      refine o_store hl 0 [.int .i64 3] rfl rfl rfl rfl rfl (by simp) rfl ?_
      intro w5 hl5
      refine o_nil ⟨(), ?_, rfl, hs1, ?_⟩
      · rw [ho]; refine ⟨rfl, rfl, rfl, ?_, rfl, rfl, trivial⟩
        show Value.int _ _ = Value.int _ _
        congr 1 <;> (simp only; omega)
      · rw [ho]; exact hl5

  · rintro _ t w3 ⟨hs1, hl⟩
    refine hK _ _ ?_
    clear hK K
    have hen3 := hen.ext hl.done
    have hne : text.drop i ≠ [] := fun h => by have := List.drop_eq_nil_iff.1 h; omega
    have hle := one_len_le _ hne
    rw [List.length_drop] at hle
    have hcut : (text.take (i + (one (text.drop i)).len)).drop i = (text.drop i).take (one (text.drop i)).len := by rw [List.drop_take]; congr 1; omega
    have hfd := founds_here (s := text) (i := i) hlt hs1
    rw [hfd] at hall
    repeat' (first | refine o_mov rfl (by conv => lhs; whnf) ?_ | refine o_asg rfl (by conv => lhs; whnf) ?_ | refine o_binN rfl rfl rfl rfl (by omega) ?_ | refine o_notb rfl rfl ?_ | refine o_fa rfl rfl rfl ?_ | refine o_ext rfl rfl (by conv => lhs; whnf) ?_ | refine o_lens rfl rfl rfl ?_ | refine o_pick_t rfl rfl (by conv => lhs; whnf) ?_ | refine o_pick_f rfl rfl (by conv => lhs; whnf) ?_ | refine o_not rfl ?_ | (refine o_nil (hK _ _ ?_); clear hK K) | refine wk_reg ?_ | refine wk_seq fun K hK => ?_ | (refine wk_skip (hK _ _ ?_); clear hK K) | (refine wk_label (hK _ _ ?_); clear hK K) | refine wk_scope ?_ | refine wk_block ?_ | refine wk_cond_t rfl ?_ | refine wk_cond_f rfl ?_ | (refine wk_exit ?_; (repeat (refine blockK_other rfl ?_)); refine blockK_same ?_; (first | (refine hK _ _ ?_; clear hK K) | (clear hK K; refine hK _ _ ?_; clear hK K) | (clear hK K; clear hK K; refine hK _ _ ?_; clear hK K) | (clear hK K; clear hK K; clear hK K; refine hK _ _ ?_; clear hK K) | (clear hK K; clear hK K; clear hK K; clear hK K; refine hK _ _ ?_; clear hK K) | (clear hK K; clear hK K; clear hK K; clear hK K; clear hK K; refine hK _ _ ?_; clear hK K) | skip)) | (refine o_binT rfl rfl rfl rfl ?_ ?_ <;> intro _))
    refine o_load rfl rfl rfl hen3.ht ?_
    repeat' (first | refine o_mov rfl (by conv => lhs; whnf) ?_ | refine o_asg rfl (by conv => lhs; whnf) ?_ | refine o_binN rfl rfl rfl rfl (by omega) ?_ | refine o_notb rfl rfl ?_ | refine o_fa rfl rfl rfl ?_ | refine o_ext rfl rfl (by conv => lhs; whnf) ?_ | refine o_lens rfl rfl rfl ?_ | refine o_pick_t rfl rfl (by conv => lhs; whnf) ?_ | refine o_pick_f rfl rfl (by conv => lhs; whnf) ?_ | refine o_not rfl ?_ | (refine o_nil (hK _ _ ?_); clear hK K) | refine wk_reg ?_ | refine wk_seq fun K hK => ?_ | (refine wk_skip (hK _ _ ?_); clear hK K) | (refine wk_label (hK _ _ ?_); clear hK K) | refine wk_scope ?_ | refine wk_block ?_ | refine wk_cond_t rfl ?_ | refine wk_cond_f rfl ?_ | (refine wk_exit ?_; (repeat (refine blockK_other rfl ?_)); refine blockK_same ?_; (first | (refine hK _ _ ?_; clear hK K) | (clear hK K; refine hK _ _ ?_; clear hK K) | (clear hK K; clear hK K; refine hK _ _ ?_; clear hK K) | (clear hK K; clear hK K; clear hK K; refine hK _ _ ?_; clear hK K) | (clear hK K; clear hK K; clear hK K; clear hK K; refine hK _ _ ?_; clear hK K) | (clear hK K; clear hK K; clear hK K; clear hK K; clear hK K; refine hK _ _ ?_; clear hK K) | skip)) | (refine o_binT rfl rfl rfl rfl ?_ ?_ <;> intro _))
    refine o_cut2 i (i + (one (text.drop i)).len) (by omega) (by omega) rfl rfl rfl rfl rfl rfl rfl ?_
    rw [hcut]
    repeat' (first | refine o_mov rfl (by conv => lhs; whnf) ?_ | refine o_asg rfl (by conv => lhs; whnf) ?_ | refine o_binN rfl rfl rfl rfl (by omega) ?_ | refine o_notb rfl rfl ?_ | refine o_fa rfl rfl rfl ?_ | refine o_ext rfl rfl (by conv => lhs; whnf) ?_ | refine o_lens rfl rfl rfl ?_ | refine o_pick_t rfl rfl (by conv => lhs; whnf) ?_ | refine o_pick_f rfl rfl (by conv => lhs; whnf) ?_ | refine o_not rfl ?_ | (refine o_nil (hK _ _ ?_); clear hK K) | refine wk_reg ?_ | refine wk_seq fun K hK => ?_ | (refine wk_skip (hK _ _ ?_); clear hK K) | (refine wk_label (hK _ _ ?_); clear hK K) | refine wk_scope ?_ | refine wk_block ?_ | refine wk_cond_t rfl ?_ | refine wk_cond_f rfl ?_ | (refine wk_exit ?_; (repeat (refine blockK_other rfl ?_)); refine blockK_same ?_; (first | (refine hK _ _ ?_; clear hK K) | (clear hK K; refine hK _ _ ?_; clear hK K) | (clear hK K; clear hK K; refine hK _ _ ?_; clear hK K) | (clear hK K; clear hK K; clear hK K; refine hK _ _ ?_; clear hK K) | (clear hK K; clear hK K; clear hK K; clear hK K; refine hK _ _ ?_; clear hK K) | (clear hK K; clear hK K; clear hK K; clear hK K; clear hK K; refine hK _ _ ?_; clear hK K) | skip)) | (refine o_binT rfl rfl rfl rfl ?_ ?_ <;> intro _))
    refine o_store hl 0 [str ((text.drop i).take (one (text.drop i)).len)] rfl rfl rfl (by simp only [str_eq]; rfl) rfl (by simp) (by simp only [str_eq]; rfl) ?_
    intro w4 hl4
    repeat' (first | refine o_mov rfl (by conv => lhs; whnf) ?_ | refine o_asg rfl (by conv => lhs; whnf) ?_ | refine o_binN rfl rfl rfl rfl (by omega) ?_ | refine o_notb rfl rfl ?_ | refine o_fa rfl rfl rfl ?_ | refine o_ext rfl rfl (by conv => lhs; whnf) ?_ | refine o_lens rfl rfl rfl ?_ | refine o_pick_t rfl rfl (by conv => lhs; whnf) ?_ | refine o_pick_f rfl rfl (by conv => lhs; whnf) ?_ | refine o_not rfl ?_ | (refine o_nil (hK _ _ ?_); clear hK K) | refine wk_reg ?_ | refine wk_seq fun K hK => ?_ | (refine wk_skip (hK _ _ ?_); clear hK K) | (refine wk_label (hK _ _ ?_); clear hK K) | refine wk_scope ?_ | refine wk_block ?_ | refine wk_cond_t rfl ?_ | refine wk_cond_f rfl ?_ | (refine wk_exit ?_; (repeat (refine blockK_other rfl ?_)); refine blockK_same ?_; (first | (refine hK _ _ ?_; clear hK K) | (clear hK K; refine hK _ _ ?_; clear hK K) | (clear hK K; clear hK K; refine hK _ _ ?_; clear hK K) | (clear hK K; clear hK K; clear hK K; refine hK _ _ ?_; clear hK K) | (clear hK K; clear hK K; clear hK K; clear hK K; refine hK _ _ ?_; clear hK K) | (clear hK K; clear hK K; clear hK K; clear hK K; clear hK K; refine hK _ _ ?_; clear hK K) | skip)) | (refine o_binT rfl rfl rfl rfl ?_ ?_ <;> intro _))
    have hfl := hl4.rowL 0 (b := f) 0 5 rfl
    refine o_loadN (vs := foundL (found i (text.drop i))) rfl rfl rfl rfl hfl ?_
    refine o_callv rfl rfl rfl (hY pre (found i (text.drop i)) _ w0 w4 hall hJ hl4.done) ?_
    rintro v w5 (⟨rfl, hJ5, hfr⟩ | ⟨rfl, hS⟩)
    · repeat' (first | refine o_mov rfl (by conv => lhs; whnf) ?_ | refine o_asg rfl (by conv => lhs; whnf) ?_ | refine o_binN rfl rfl rfl rfl (by omega) ?_ | refine o_notb rfl rfl ?_ | refine o_fa rfl rfl rfl ?_ | refine o_ext rfl rfl (by conv => lhs; whnf) ?_ | refine o_lens rfl rfl rfl ?_ | refine o_pick_t rfl rfl (by conv => lhs; whnf) ?_ | refine o_pick_f rfl rfl (by conv => lhs; whnf) ?_ | refine o_not rfl ?_ | (refine o_nil (hK _ _ ?_); clear hK K) | refine wk_reg ?_ | refine wk_seq fun K hK => ?_ | (refine wk_skip (hK _ _ ?_); clear hK K) | (refine wk_label (hK _ _ ?_); clear hK K) | refine wk_scope ?_ | refine wk_block ?_ | refine wk_cond_t rfl ?_ | refine wk_cond_f rfl ?_ | (refine wk_exit ?_; (repeat (refine blockK_other rfl ?_)); refine blockK_same ?_; (first | (refine hK _ _ ?_; clear hK K) | (clear hK K; refine hK _ _ ?_; clear hK K) | (clear hK K; clear hK K; refine hK _ _ ?_; clear hK K) | (clear hK K; clear hK K; clear hK K; refine hK _ _ ?_; clear hK K) | (clear hK K; clear hK K; clear hK K; clear hK K; refine hK _ _ ?_; clear hK K) | (clear hK K; clear hK K; clear hK K; clear hK K; clear hK K; refine hK _ _ ?_; clear hK K) | skip)) | (refine o_binT rfl rfl rfl rfl ?_ ?_ <;> intro _))
      have hf4 : f < w4.heap.size := hl4.lt (p := (f, _)) (List.mem_singleton.2 rfl)
      have hb := hfr f hf hf4
      rw [hl4.get 0 rfl] at hb
      refine o_load (v := .int .i64 ((one (text.drop i)).err : Int)) rfl rfl rfl (cell_of_block hb rfl) ?_
      repeat' (first | refine o_mov rfl (by conv => lhs; whnf) ?_ | refine o_asg rfl (by conv => lhs; whnf) ?_ | refine o_binN rfl rfl rfl rfl (by omega) ?_ | refine o_notb rfl rfl ?_ | refine o_fa rfl rfl rfl ?_ | refine o_ext rfl rfl (by conv => lhs; whnf) ?_ | refine o_lens rfl rfl rfl ?_ | refine o_pick_t rfl rfl (by conv => lhs; whnf) ?_ | refine o_pick_f rfl rfl (by conv => lhs; whnf) ?_ | refine o_not rfl ?_ | (refine o_nil (hK _ _ ?_); clear hK K) | refine wk_reg ?_ | refine wk_seq fun K hK => ?_ | (refine wk_skip (hK _ _ ?_); clear hK K) | (refine wk_label (hK _ _ ?_); clear hK K) | refine wk_scope ?_ | refine wk_block ?_ | refine wk_cond_t rfl ?_ | refine wk_cond_f rfl ?_ | (refine wk_exit ?_; (repeat (refine blockK_other rfl ?_)); refine blockK_same ?_; (first | (refine hK _ _ ?_; clear hK K) | (clear hK K; refine hK _ _ ?_; clear hK K) | (clear hK K; clear hK K; refine hK _ _ ?_; clear hK K) | (clear hK K; clear hK K; clear hK K; refine hK _ _ ?_; clear hK K) | (clear hK K; clear hK K; clear hK K; clear hK K; refine hK _ _ ?_; clear hK K) | (clear hK K; clear hK K; clear hK K; clear hK K; clear hK K; refine hK _ _ ?_; clear hK K) | skip)) | (refine o_binT rfl rfl rfl rfl ?_ ?_ <;> intro _))
      · have he : ¬ (one (text.drop i)).err = 0 := by omega
        rw [if_neg he] at hall
        refine wk_ret (retQ_tmp0 rfl rfl (.inl ?_))
        rw [hall]; exact hJ5
      · have he : (one (text.drop i)).err = 0 := by omega
        have hp := one_len_pos _ he
        rw [if_pos he] at hall
        refine wk_skip ⟨(i + (one (text.drop i)).len, pre ++ [found i (text.drop i)]), ⟨rfl, rfl, rfl, rfl, trivial⟩, rfl, ⟨?_, hJ5, ?_⟩, ?_⟩
        · simp only; omega
        · rw [hall]; simp
        · simp only; omega
    · repeat' (first | refine o_mov rfl (by conv => lhs; whnf) ?_ | refine o_asg rfl (by conv => lhs; whnf) ?_ | refine o_binN rfl rfl rfl rfl (by omega) ?_ | refine o_notb rfl rfl ?_ | refine o_fa rfl rfl rfl ?_ | refine o_ext rfl rfl (by conv => lhs; whnf) ?_ | refine o_lens rfl rfl rfl ?_ | refine o_pick_t rfl rfl (by conv => lhs; whnf) ?_ | refine o_pick_f rfl rfl (by conv => lhs; whnf) ?_ | refine o_not rfl ?_ | (refine o_nil (hK _ _ ?_); clear hK K) | refine wk_reg ?_ | refine wk_seq fun K hK => ?_ | (refine wk_skip (hK _ _ ?_); clear hK K) | (refine wk_label (hK _ _ ?_); clear hK K) | refine wk_scope ?_ | refine wk_block ?_ | refine wk_cond_t rfl ?_ | refine wk_cond_f rfl ?_ | (refine wk_exit ?_; (repeat (refine blockK_other rfl ?_)); refine blockK_same ?_; (first | (refine hK _ _ ?_; clear hK K) | (clear hK K; refine hK _ _ ?_; clear hK K) | (clear hK K; clear hK K; refine hK _ _ ?_; clear hK K) | (clear hK K; clear hK K; clear hK K; refine hK _ _ ?_; clear hK K) | (clear hK K; clear hK K; clear hK K; clear hK K; refine hK _ _ ?_; clear hK K) | (clear hK K; clear hK K; clear hK K; clear hK K; clear hK K; refine hK _ _ ?_; clear hK K) | skip)) | (refine o_binT rfl rfl rfl rfl ?_ ?_ <;> intro _))
      exact wk_ret (retQ_tmp0 rfl rfl (.inr hS))
end Go.Proofs

/-
  tokens.
-/
set_option linter.unusedVariables false
set_option linter.unusedSimpArgs false
set_option linter.unnecessarySimpa false
set_option maxRecDepth 10000
namespace Go.Proofs
open Go Go.Pd Go.Lexs
attribute [local irreducible] OpsL W RetQ OpsQ OpsC

theorem classL_len : classL.length = 256 := by simp [classL]
theorem classL_one : classL.all Value.oneCell' = true := by simp [classL, Value.oneCell']

def atF (bt bc : Nat) : Value := .func (.func 138) #[] #[.pointer (some ⟨bt, 0, none⟩), .pointer (some ⟨bc, 0, none⟩)]

theorem tokens_calls (text : List UInt8) (w : World) :
    Calls Tryz.prog 127 #[str text] w (fun e w' => ∃ v, e = .returned v ∧ ∃ bt bc bf, v = .func (.func 139) #[] #[.pointer (some ⟨bt, 0, none⟩), .pointer (some ⟨bf, 0, none⟩)] ∧
      LH w (fun _ => False) w' [(bf, .cells #[atF bt bc] 197 (0, 0)), (bc, .cells classL.toArray 195 (0, 0)), (bt, .cells #[str text] 9 (0, 0))]) := by
  refine calls_of Tryz.func127 rfl Tryz.ntmps127 rfl ?_
  repeat (first | refine o_asg rfl (by conv => lhs; whnf) ?_ | (refine o_nil (hK _ _ ?_); clear hK K) | refine wk_reg ?_ | refine wk_seq fun K hK => ?_)
  refine o_box (LH.start w (fun _ => False)) [str text] rfl rfl (by simp only [str_eq]; rfl) ?_
  intro bt w1 hbt hl
  repeat (first | refine o_asg rfl (by conv => lhs; whnf) ?_ | (refine o_nil (hK _ _ ?_); clear hK K) | refine wk_reg ?_ | refine wk_seq fun K hK => ?_)
  refine o_fn (classes_calls w1) rfl (fun _ => rfl) rfl ?_
  rintro _ w2 ⟨rfl, he2⟩
  replace hl := hl.ext he2
  refine o_alloc hl (List.replicate 256 (.int .u8 0)) (by kernel_rfl) rfl ?_
  intro bc w3 hbc hl3
  refine o_store hl3 0 classL rfl rfl rfl rfl (by rw [classL_len]; rfl) (by rw [classL_len, List.length_replicate]; omega) classL_one ?_
  intro w4 hl4
  rw [putL_all classL (List.replicate 256 (.int .u8 0)) 0 (by rw [classL_len, List.length_replicate]), List.take_zero, List.nil_append] at hl4
  clear hl hl3
  have hl : LH w (fun _ => False) w4 [(bc, .cells classL.toArray 195 (0, 0)), (bt, .cells #[str text] 9 (0, 0))] := hl4
  clear hl4
  repeat (first | refine o_asg rfl (by conv => lhs; whnf) ?_ | (refine o_nil (hK _ _ ?_); clear hK K) | refine wk_reg ?_ | refine wk_seq fun K hK => ?_)
  refine o_mf [] [.pointer (some ⟨bt, 0, none⟩), .pointer (some ⟨bc, 0, none⟩)] rfl rfl rfl ?_
  refine o_alloc hl [.nilFunc] rfl rfl ?_
  intro bf w5 hbf hl5
  refine o_store hl5 0 [atF bt bc] rfl rfl rfl rfl rfl (by simp) rfl ?_
  intro w6 hl6
  repeat (first | refine o_asg rfl (by conv => lhs; whnf) ?_ | (refine o_nil (hK _ _ ?_); clear hK K) | refine wk_reg ?_ | refine wk_seq fun K hK => ?_)
  refine o_mf [] [.pointer (some ⟨bt, 0, none⟩), .pointer (some ⟨bf, 0, none⟩)] rfl rfl rfl ?_
  repeat (first | refine o_asg rfl (by conv => lhs; whnf) ?_ | (refine o_nil (hK _ _ ?_); clear hK K) | refine wk_reg ?_ | refine wk_seq fun K hK => ?_)
  refine wk_ret (retQ_tmp1 Tryz.results127 (by decide) rfl (by conv => lhs; whnf) ?_)
  exact ⟨bt, bc, bf, rfl, hl6⟩
end Go.Proofs

/-
  Lex.
-/
set_option linter.unusedVariables false
set_option linter.unusedSimpArgs false
set_option linter.unnecessarySimpa false
set_option maxRecDepth 10000
namespace Go.Proofs
open Go Go.Pd Go.Lexs
attribute [local irreducible] OpsL W RetQ OpsQ OpsC

def tokL (t : Tok) : List Value := [.int .i64 (t.kind : Int), str t.text, .int .i64 (t.num : Int), .int .i64 (t.pos : Int)]

theorem gather_app : ∀ (pre : List Lexs.Found) (acc : List Tok) (rest : List Lexs.Found), (∀ x ∈ pre, x.err = 0) → acc.length + pre.length ≤ 5000 → gather acc (pre ++ rest) = gather (acc ++ pre.map (·.tok)) rest
  | [], acc, rest, _, _ => by simp
  | x :: pre, acc, rest, h, hl => by
    have h1 := h x List.mem_cons_self
    simp only [List.length_cons] at hl
    simp only [List.cons_append, gather, h1, ne_eq, not_true_eq_false, if_false]
    rw [if_neg (by omega), gather_app pre (acc ++ [x.tok]) rest (fun y hy => h y (List.mem_cons_of_mem _ hy)) (by simp; omega)]
    simp

def lexL (text : List UInt8) (r2 r3 r4 o5 bt bc bf D L : Nat) (rec : Loop) (sv : Value) (e off : Int) (ov : Value) : List (Nat × Obj) :=
  [(L, .loop rec), (D, .deferred (some [])), (bf, .cells #[atF bt bc] 197 (0, 0)), (bc, .cells classL.toArray 195 (0, 0)), (bt, .cells #[str text] 9 (0, 0)), (o5, .cells #[ov] 158 (0, 0)),
    (r4, .cells #[.int .i64 off] 3 (0, 0)), (r3, .cells #[.int .i64 e] 40 (0, 0)), (r2, .cells #[sv] 158 (0, 0))]

def toksL (l : List Tok) : List Value := l.flatMap tokL

structure LexJ (text : List UInt8) (r2 r3 r4 o5 bt bc bf D L : Nat) (rec : Loop) (w00 : World) (pre : List Lexs.Found) (w : World) : Prop where
  h : ∃ ov acc, LH w00 (fun _ => False) w (lexL text r2 r3 r4 o5 bt bc bf D L rec (.slice none 0 0) 0 0 ov ++ acc) ∧ Acc ov 4 162 pre.length (toksL (pre.map (·.tok))) acc
  err : ∀ x ∈ pre, x.err = 0
  len : pre.length ≤ 5000

def LexS (text : List UInt8) (r2 r3 r4 o5 bt bc bf D L : Nat) (rec : Loop) (w00 w : World) : Prop :=
  ∃ e off ov acc, lex text = .bad e off ∧ LH w00 (fun _ => False) w (lexL text r2 r3 r4 o5 bt bc bf D L { rec with state := .done, pending := some .ret } (.slice none 0 0) e off ov ++ acc)

def LexOut (w' : World) : Res → Value → Prop
  | .ok l, v => ∃ sv, v = .tuple #[sv, .int .i64 0, .int .i64 0] ∧ Sl w' sv 4 (toksL l)
  | .bad e off, v => v = .tuple #[.slice none 0 0, .int .i64 (e : Int), .int .i64 off]

set_option maxHeartbeats 4000000 in
theorem lex_calls (text : List UInt8) (w : World) : Calls Tryz.prog 109 #[str text] w (fun e w' => ∃ v, e = .returned v ∧ Ext w w' ∧ LexOut w' (lex text) v) := by
  refine calls_of Tryz.func109 rfl Tryz.ntmps109 rfl ?_
  repeat (first | refine o_mov rfl (by conv => lhs; whnf) ?_ | refine o_asg rfl (by conv => lhs; whnf) ?_ | refine o_fa rfl rfl rfl ?_ | refine o_lenv rfl rfl rfl ?_ | refine o_lens rfl rfl rfl ?_ | (refine o_nil (hK _ _ ?_); clear hK K) | refine wk_reg ?_ | refine wk_seq fun K hK => ?_ | (refine wk_skip (hK _ _ ?_); clear hK K) | refine wk_block ?_ | refine wk_cond_t rfl ?_ | refine wk_cond_f rfl ?_)
  refine o_alloc (LH.start w (fun _ => False)) [.slice none 0 0] rfl rfl ?_
  intro r2 w1 hr2 hl
  refine o_alloc hl [.int .i64 0] rfl rfl ?_
  clear hl
  intro r3 w2 hr3 hl
  refine o_alloc hl [.int .i64 0] rfl rfl ?_
  clear hl
  intro r4 w3 hr4 hl
  repeat' (first | refine o_mov rfl (by conv => lhs; whnf) ?_ | refine o_asg rfl (by conv => lhs; whnf) ?_ | refine o_fa rfl rfl rfl ?_ | refine o_lenv rfl rfl rfl ?_ | refine o_lens rfl rfl rfl ?_ | (refine o_nil (hK _ _ ?_); clear hK K) | refine wk_reg ?_ | refine wk_seq fun K hK => ?_ | (refine wk_skip (hK _ _ ?_); clear hK K) | refine wk_block ?_ | refine wk_cond_t rfl ?_ | refine wk_cond_f rfl ?_ | (refine o_binT rfl rfl rfl rfl ?_ ?_ <;> intro _))
  · refine o_store hl 2 [.slice none 0 0] rfl rfl rfl rfl rfl (by simp) rfl ?_
    clear hl
    intro w4 hl
    refine o_store hl 1 [.int .i64 2] rfl rfl rfl rfl rfl (by simp) rfl ?_
    clear hl
    intro w5 hl
    refine o_store hl 0 [.int .i64 (-1)] rfl rfl rfl rfl rfl (by simp) rfl ?_
    clear hl
    intro w6 hl
    have hl : LH w (fun _ => False) w6 [(r4, .cells #[.int .i64 (-1)] 3 (0, 0)), (r3, .cells #[.int .i64 2] 40 (0, 0)), (r2, .cells #[.slice none 0 0] 158 (0, 0))] := hl
    repeat' (first | refine o_mov rfl (by conv => lhs; whnf) ?_ | refine o_asg rfl (by conv => lhs; whnf) ?_ | refine o_fa rfl rfl rfl ?_ | refine o_lenv rfl rfl rfl ?_ | refine o_lens rfl rfl rfl ?_ | (refine o_nil (hK _ _ ?_); clear hK K) | refine wk_reg ?_ | refine wk_seq fun K hK => ?_ | (refine wk_skip (hK _ _ ?_); clear hK K) | refine wk_block ?_ | refine wk_cond_t rfl ?_ | refine wk_cond_f rfl ?_ | (refine o_binT rfl rfl rfl rfl ?_ ?_ <;> intro _))
    refine wk_ret (retQ_res [.slice none 0 0, .int .i64 2, .int .i64 (-1)] rfl rfl ⟨by decide, ⟨⟨r2, 0, none⟩, rfl, run_loadVar1 rfl (hl.cell 2 rfl rfl)⟩, by decide, ⟨⟨r3, 0, none⟩, rfl, run_loadVar1 rfl (hl.cell 1 rfl rfl)⟩, by decide, ⟨⟨r4, 0, none⟩, rfl, run_loadVar1 rfl (hl.cell 0 rfl rfl)⟩, trivial⟩ ⟨hl.done, ?_⟩)
    have : lex text = .bad 2 (-1) := by unfold lex; rw [if_pos (by omega)]
    rw [this]; rfl
  have hlen : text.length ≤ 20000 := by omega
  refine o_alloc hl [.slice none 0 0] rfl rfl ?_
  clear hl
  intro o5 w4 ho5 hl
  repeat' (first | refine o_mov rfl (by conv => lhs; whnf) ?_ | refine o_asg rfl (by conv => lhs; whnf) ?_ | refine o_fa rfl rfl rfl ?_ | refine o_lenv rfl rfl rfl ?_ | refine o_lens rfl rfl rfl ?_ | (refine o_nil (hK _ _ ?_); clear hK K) | refine wk_reg ?_ | refine wk_seq fun K hK => ?_ | (refine wk_skip (hK _ _ ?_); clear hK K) | refine wk_block ?_ | refine wk_cond_t rfl ?_ | refine wk_cond_f rfl ?_ | (refine o_binT rfl rfl rfl rfl ?_ ?_ <;> intro _))
  refine o_fn (tokens_calls text w4) rfl (fun _ => rfl) rfl ?_
  rintro _ w5 ⟨bt, bc, bf, rfl, hl5⟩
  replace hl := hl.join hl5
  clear hl5
  repeat' (first | refine o_mov rfl (by conv => lhs; whnf) ?_ | refine o_asg rfl (by conv => lhs; whnf) ?_ | refine o_fa rfl rfl rfl ?_ | refine o_lenv rfl rfl rfl ?_ | refine o_lens rfl rfl rfl ?_ | (refine o_nil (hK _ _ ?_); clear hK K) | refine wk_reg ?_ | refine wk_seq fun K hK => ?_ | (refine wk_skip (hK _ _ ?_); clear hK K) | refine wk_block ?_ | refine wk_cond_t rfl ?_ | refine wk_cond_f rfl ?_ | (refine o_binT rfl rfl rfl rfl ?_ ?_ <;> intro _))
  refine wk_rangeFunc rfl (fun _ _ => rfl) ?_
  intro fn tm w6 hfits hheap
  generalize hD : w5.heap.size = D at hheap ⊢
  generalize hrec : Loop.mk _ _ _ _ _ _ _ _ = rec at hheap
  have hl6 : LH w (fun _ => False) w6 (lexL text r2 r3 r4 o5 bt bc bf D (D + 1) rec (.slice none 0 0) 0 0 (.slice none 0 0) ++ []) := by
    have h1 := ((hl.alloc (.deferred (some []))).alloc (.loop rec)).heap hheap
    simp only [Array.size_push] at h1
    rw [hD] at h1
    exact h1
  clear hl hheap
  refine Calls.mono (tokens2_calls text hlen (.func (.yield (D + 1)) #[] #[]) bt bf bc (LexJ text r2 r3 r4 o5 bt bc bf D (D + 1) rec w) (LexS text r2 r3 r4 o5 bt bc bf D (D + 1) rec w) ?_ ?_ ?_ w6 ⟨⟨_, _, hl6, Acc.nil _ _⟩, (fun _ h => nomatch h), Nat.zero_le _⟩) ?_
  · rintro pre wa ⟨⟨ov, acc, h, ha⟩, he, hle⟩
    refine ⟨h.cell 4 rfl rfl, h.cell 2 rfl rfl, ?_⟩
    have := h.rowL (vs := classL) 3 0 256 rfl
    rwa [List.drop_zero, List.take_of_length_le (by rw [classL_len]; exact Nat.le_refl _)] at this
  · rintro pre wa wb ⟨⟨ov, acc, h, ha⟩, he, hle⟩ hx
    exact ⟨⟨ov, acc, h.ext hx, ha⟩, he, hle⟩
  · rintro pre x rest wa wb hall ⟨⟨ov, acc, h, ha⟩, he, hle⟩ hx
    have hb := h.rebase hx
    refine callV_round (n := 35) (hb.get 0 rfl) (congrArg Loop.params hrec.symm) (congrArg Loop.assign hrec.symm) (congrArg Loop.body hrec.symm) rfl (by rw [show rec.tmps = tm from congrArg Loop.tmps hrec.symm]; exact hfits) ?_
    have hready : rec.state = .ready := congrArg Loop.state hrec.symm
    have hpend : rec.pending = none := congrArg Loop.pending hrec.symm
    clear hl6 hfits hrec
    dsimp only
    repeat (first | refine o_mov rfl (by conv => lhs; whnf) ?_ | refine o_asg rfl (by conv => lhs; whnf) ?_ | refine o_fa rfl rfl rfl ?_ | refine o_lenv rfl rfl rfl ?_ | refine o_lens rfl rfl rfl ?_ | (refine o_nil (hK _ _ ?_); clear hK K) | refine wk_reg ?_ | refine wk_seq fun K hK => ?_ | (refine wk_skip (hK _ _ ?_); clear hK K) | refine wk_block ?_ | refine wk_cond_t rfl ?_ | refine wk_cond_f rfl ?_)
    refine o_alloc hb [.int .i64 0, .string ⟨#[]⟩, .int .i64 0, .int .i64 0, .int .i64 0] rfl rfl ?_
    intro f wc hf hl
    clear hb
    refine o_store hl 0 (foundL x) rfl rfl rfl rfl rfl (by simp [foundL]) (by simp only [foundL, str_eq]; rfl) ?_
    clear hl
    intro wd hl
    refine o_nil ⟨_, hl.get 1 rfl, hready, ?_⟩
    intro we hwe
    replace hl := hl.put 1 rfl hwe
    obtain ⟨a0, c0, hov⟩ := ha.shape
    subst hov
    have hl : LH _ _ _ ((f, .cells (foundL x).toArray 184 (0, 0)) :: (lexL text r2 r3 r4 o5 bt bc bf D (D + 1) { rec with state := .busy } (.slice none 0 0) 0 0 (.slice a0 pre.length c0) ++ acc)) := hl
    have hlex : lex text = gather (pre.map (·.tok)) (x :: rest) := by
      unfold lex
      rw [if_neg (by omega), hall, gather_app pre [] _ he (by simpa using hle), List.nil_append]
    repeat' (first | refine o_mov rfl (by conv => lhs; whnf) ?_ | refine o_asg rfl (by conv => lhs; whnf) ?_ | refine o_fa rfl rfl rfl ?_ | refine o_lenv rfl rfl rfl ?_ | refine o_lens rfl rfl rfl ?_ | (refine o_nil (hK _ _ ?_); clear hK K) | refine wk_reg ?_ | refine wk_seq fun K hK => ?_ | (refine wk_skip (hK _ _ ?_); clear hK K) | refine wk_block ?_ | refine wk_cond_t rfl ?_ | refine wk_cond_f rfl ?_ | (refine o_binT rfl rfl rfl rfl ?_ ?_ <;> intro _))
    refine o_load rfl rfl rfl (hl.cell 0 rfl rfl) ?_
    repeat' (first | refine o_mov rfl (by conv => lhs; whnf) ?_ | refine o_asg rfl (by conv => lhs; whnf) ?_ | refine o_fa rfl rfl rfl ?_ | refine o_lenv rfl rfl rfl ?_ | refine o_lens rfl rfl rfl ?_ | (refine o_nil (hK _ _ ?_); clear hK K) | refine wk_reg ?_ | refine wk_seq fun K hK => ?_ | (refine wk_skip (hK _ _ ?_); clear hK K) | refine wk_block ?_ | refine wk_cond_t rfl ?_ | refine wk_cond_f rfl ?_ | (refine o_binT rfl rfl rfl rfl ?_ ?_ <;> intro _))
    · refine wk_draw [0, 1, 2, 3, 4] [1, 4] [5, 6, 7] (fun w' => To we w' we.heap) (fun w' => w'.heap[f]? = some (.cells (foundL x).toArray 184 (0, 0))) rfl (by kernel_rfl) (fun _ _ _ _ h => h) (fun _ h => h) (fun w' h => by rw [h.1]; exact hl.get 0 rfl) ?_
      refine q_pur rfl rfl rfl (fun _ => r_fa rfl rfl) ?_
      refine q_late rfl rfl rfl rfl (fun w' hw' => r_load rfl rfl (cell_of_block hw' rfl)) ?_
      refine q_pur rfl rfl rfl (fun _ => r_fa rfl rfl) ?_
      refine q_pur rfl rfl rfl (fun _ => r_fa rfl rfl) ?_
      refine q_late rfl rfl rfl rfl (fun w' hw' => r_load rfl rfl (cell_of_block hw' rfl)) ?_
      refine q_nil ?_
      intro wf hwf
      replace hl := hl.heap hwf
      refine ops_tail rfl rfl ?_
      refine o_store hl 9 [.slice none 0 0] rfl rfl rfl rfl rfl (by simp) rfl ?_
      clear hl
      intro wg hl
      refine o_nil ⟨hl.get 0 rfl, ?_⟩
      refine ops_tail rfl rfl ?_
      refine o_store hl 8 [.int .i64 (x.err : Int)] rfl rfl rfl rfl rfl (by simp) rfl ?_
      clear hl
      intro wh hl
      refine o_nil ⟨hl.get 0 rfl, ?_⟩
      refine ops_tail rfl rfl ?_
      refine o_store hl 7 [.int .i64 (x.tok.pos : Int)] rfl rfl rfl rfl rfl (by simp) rfl ?_
      clear hl
      intro wi hl
      refine o_nil ⟨hl.get 0 rfl, ?_⟩
      refine ops_nil (hK _ _ ?_)
      clear hK K
      refine wk_ret ⟨_, hl.get 1 rfl, fun w' hw' => .inr ⟨rfl, ?_⟩⟩
      replace hl := hl.put 1 rfl hw'
      have hl : LH _ _ _ ((f, .cells (foundL x).toArray 184 (0, 0)) :: (lexL text r2 r3 r4 o5 bt bc bf D (D + 1) { rec with state := .done, pending := some .ret } (.slice none 0 0) (x.err : Int) (x.tok.pos : Int) (.slice a0 pre.length c0) ++ acc)) := hl
      refine ⟨x.err, (x.tok.pos : Int), _, acc, ?_, h.back hx (hl.sub (List.sublist_cons_self _ _))⟩
      rw [hlex]
      have : x.err ≠ 0 := by omega
      simp only [gather, if_pos this]
    have hx0 : x.err = 0 := by omega
    refine o_load rfl rfl rfl (hl.cell 6 rfl rfl) ?_
    repeat' (first | refine o_mov rfl (by conv => lhs; whnf) ?_ | refine o_asg rfl (by conv => lhs; whnf) ?_ | refine o_fa rfl rfl rfl ?_ | refine o_lenv rfl rfl rfl ?_ | refine o_lens rfl rfl rfl ?_ | (refine o_nil (hK _ _ ?_); clear hK K) | refine wk_reg ?_ | refine wk_seq fun K hK => ?_ | (refine wk_skip (hK _ _ ?_); clear hK K) | refine wk_block ?_ | refine wk_cond_t rfl ?_ | refine wk_cond_f rfl ?_ | (refine o_binT rfl rfl rfl rfl ?_ ?_ <;> intro _))
    · refine wk_draw [0, 1, 2] [2] [3, 4, 5] (fun w' => To we w' we.heap) (fun w' => w'.heap[f]? = some (.cells (foundL x).toArray 184 (0, 0))) rfl (by kernel_rfl) (fun _ _ _ _ h => h) (fun _ h => h) (fun w' h => by rw [h.1]; exact hl.get 0 rfl) ?_
      refine q_pur rfl rfl rfl (fun _ => r_fa rfl rfl) ?_
      refine q_pur rfl rfl rfl (fun _ => r_fa rfl rfl) ?_
      refine q_late rfl rfl rfl rfl (fun w' hw' => r_load rfl rfl (cell_of_block hw' rfl)) ?_
      refine q_nil ?_
      intro wf hwf
      replace hl := hl.heap hwf
      refine ops_tail rfl rfl ?_
      refine o_store hl 9 [.slice none 0 0] rfl rfl rfl rfl rfl (by simp) rfl ?_
      clear hl
      intro wg hl
      refine o_nil ⟨hl.get 0 rfl, ?_⟩
      refine ops_tail rfl rfl ?_
      refine o_store hl 8 [.int .i64 2] rfl rfl rfl rfl rfl (by simp) rfl ?_
      clear hl
      intro wh hl
      refine o_nil ⟨hl.get 0 rfl, ?_⟩
      refine ops_tail rfl rfl ?_
      refine o_store hl 7 [.int .i64 (x.tok.pos : Int)] rfl rfl rfl rfl rfl (by simp) rfl ?_
      clear hl
      intro wi hl
      refine o_nil ⟨hl.get 0 rfl, ?_⟩
      refine ops_nil (hK _ _ ?_)
      clear hK K
      refine wk_ret ⟨_, hl.get 1 rfl, fun w' hw' => .inr ⟨rfl, ?_⟩⟩
      replace hl := hl.put 1 rfl hw'
      have hl : LH _ _ _ ((f, .cells (foundL x).toArray 184 (0, 0)) :: (lexL text r2 r3 r4 o5 bt bc bf D (D + 1) { rec with state := .done, pending := some .ret } (.slice none 0 0) 2 (x.tok.pos : Int) (.slice a0 pre.length c0) ++ acc)) := hl
      refine ⟨2, (x.tok.pos : Int), _, acc, ?_, h.back hx (hl.sub (List.sublist_cons_self _ _))⟩
      rw [hlex]
      have h5 : (pre.map (·.tok)).length = 5000 := by rw [List.length_map]; omega
      simp only [gather, hx0, ne_eq, not_true_eq_false, if_false, h5, if_true]
    have h5 : pre.length ≠ 5000 := by omega
    refine o_load rfl rfl rfl (hl.cell 6 rfl rfl) ?_
    repeat' (first | refine o_mov rfl (by conv => lhs; whnf) ?_ | refine o_asg rfl (by conv => lhs; whnf) ?_ | refine o_fa rfl rfl rfl ?_ | refine o_lenv rfl rfl rfl ?_ | refine o_lens rfl rfl rfl ?_ | (refine o_nil (hK _ _ ?_); clear hK K) | refine wk_reg ?_ | refine wk_seq fun K hK => ?_ | (refine wk_skip (hK _ _ ?_); clear hK K) | refine wk_block ?_ | refine wk_cond_t rfl ?_ | refine wk_cond_f rfl ?_ | (refine o_binT rfl rfl rfl rfl ?_ ?_ <;> intro _))
    refine o_loadN (vs := tokL x.tok) rfl rfl rfl rfl (hl.rowL (vs := foundL x) 0 0 4 rfl) ?_
    refine o_buildSlice hl (tokL x.tok) rfl rfl (by simp only [tokL, str_eq]; kernel_rfl) ?_
    intro b wf hb hl2
    have hone : (tokL x.tok).all Value.oneCell' = true := by simp only [tokL, str_eq]; rfl
    refine o_append (bl' := (b, .cells (tokL x.tok).toArray 162 (0, 0)) :: (f, .cells (foundL x).toArray 184 (0, 0)) :: lexL text r2 r3 r4 o5 bt bc bf D (D + 1) { rec with state := .busy } (.slice none 0 0) 0 0 (.slice a0 pre.length c0)) (q := 1) (bytes := 40) (us := tokL x.tok) hl2 ha (hl2.rowL (vs := tokL x.tok) 0 0 4 rfl) rfl hone (by omega) (by omega) (by omega) rfl rfl rfl rfl rfl ?_
    clear hl hl2
    intro v' wg acc' hl ha'
    obtain ⟨a1, c1, hv1⟩ := ha'.shape
    subst hv1
    refine o_store hl 7 [.slice a1 (pre.length + 1) c1] rfl rfl rfl rfl rfl (by simp) rfl ?_
    clear hl
    intro wh hl
    refine o_nil ⟨_, hl.get 2 rfl, fun w' hw' => .inl ⟨rfl, ?_⟩⟩
    replace hl := hl.put 2 rfl hw'
    have hl : LH _ _ _ ((b, .cells (tokL x.tok).toArray 162 (0, 0)) :: (f, .cells (foundL x).toArray 184 (0, 0)) :: (lexL text r2 r3 r4 o5 bt bc bf D (D + 1) { rec with state := .ready, pending := none } (.slice none 0 0) 0 0 (.slice a1 (pre.length + 1) c1) ++ acc')) := hl
    have hrr : ({ rec with state := .ready, pending := none } : Loop) = rec := by
      cases rec
      simp only at hready hpend
      rw [hready, hpend]
    rw [hrr] at hl
    refine ⟨⟨⟨_, acc', h.back hx (hl.sub ((List.sublist_cons_self _ _).trans (List.sublist_cons_self _ _))), ?_⟩, ?_, ?_⟩, h.frame hl⟩
    · have e1 : (pre ++ [x]).length = pre.length + 1 := by simp
      have e2 : toksL ((pre ++ [x]).map (·.tok)) = toksL (pre.map (·.tok)) ++ tokL x.tok := by simp [toksL]
      rw [e1, e2]; exact ha'
    · intro y hy
      rcases List.mem_append.1 hy with hy | hy
      · exact he y hy
      · rw [List.mem_singleton.1 hy]; exact hx0
    · simp; omega
  · rintro e w3 ⟨v, rfl, hJS⟩
    refine ⟨v, rfl, ?_⟩
    rcases hJS with ⟨⟨ov, acc, h, ha⟩, he, hle⟩ | ⟨e, off, ov, acc, hlex, h⟩
    · refine ⟨rec, h.get 0 rfl, by rw [← hrec]; exact fun h => (nomatch h), ?_⟩
      intro w7 hw7
      have hp : rec.pending = none := by rw [← hrec]
      rw [hp]
      dsimp only
      refine hK _ _ ?_
      clear hK K
      replace h := h.put 0 rfl hw7
      obtain ⟨a0, c0, hov⟩ := ha.shape
      subst hov
      repeat' (first | refine o_mov rfl (by conv => lhs; whnf) ?_ | refine o_asg rfl (by conv => lhs; whnf) ?_ | refine o_fa rfl rfl rfl ?_ | refine o_lenv rfl rfl rfl ?_ | refine o_lens rfl rfl rfl ?_ | (refine o_nil (hK _ _ ?_); clear hK K) | refine wk_reg ?_ | refine wk_seq fun K hK => ?_ | (refine wk_skip (hK _ _ ?_); clear hK K) | refine wk_block ?_ | refine wk_cond_t rfl ?_ | refine wk_cond_f rfl ?_ | (refine o_binT rfl rfl rfl rfl ?_ ?_ <;> intro _))
      refine o_load rfl rfl rfl (h.cell 5 rfl rfl) ?_
      refine o_store h 8 [.slice a0 _ c0] rfl rfl rfl rfl rfl (by simp) rfl ?_
      clear h
      intro w8 h
      refine o_store h 7 [.int .i64 0] rfl rfl rfl rfl rfl (by simp) rfl ?_
      clear h
      intro w9 h
      refine o_store h 6 [.int .i64 0] rfl rfl rfl rfl rfl (by simp) rfl ?_
      clear h
      intro w10 h
      repeat' (first | refine o_mov rfl (by conv => lhs; whnf) ?_ | refine o_asg rfl (by conv => lhs; whnf) ?_ | refine o_fa rfl rfl rfl ?_ | refine o_lenv rfl rfl rfl ?_ | refine o_lens rfl rfl rfl ?_ | (refine o_nil (hK _ _ ?_); clear hK K) | refine wk_reg ?_ | refine wk_seq fun K hK => ?_ | (refine wk_skip (hK _ _ ?_); clear hK K) | refine wk_block ?_ | refine wk_cond_t rfl ?_ | refine wk_cond_f rfl ?_ | (refine o_binT rfl rfl rfl rfl ?_ ?_ <;> intro _))
      refine wk_ret (retQ_res1 [.slice a0 (founds text.length 0 text).length c0, .int .i64 0, .int .i64 0] rfl rfl (h.get 1 rfl) ?_)
      intro w11 hw11
      replace h := h.put 1 rfl hw11
      refine ⟨⟨by decide, ⟨⟨r2, 0, none⟩, rfl, run_loadVar1 rfl (h.cell 8 rfl rfl)⟩, by decide, ⟨⟨r3, 0, none⟩, rfl, run_loadVar1 rfl (h.cell 7 rfl rfl)⟩, by decide, ⟨⟨r4, 0, none⟩, rfl, run_loadVar1 rfl (h.cell 6 rfl rfl)⟩, trivial⟩, h.done, ?_⟩
      have hlex : lex text = .ok ((founds text.length 0 text).map (·.tok)) := by
        unfold lex
        rw [if_neg (by omega)]
        have := gather_app (founds text.length 0 text) [] [] he (by simpa using hle)
        rw [List.append_nil, List.nil_append] at this
        rw [this]; rfl
      rw [hlex]
      have hl : LH w (fun _ => False) w11 (([_, _, _, _, _, _, _, _, _] : List (Nat × Obj)) ++ acc) := h
      exact ⟨_, rfl, hl.acc_sl ha⟩
    · refine ⟨_, h.get 0 rfl, fun h => (nomatch h), ?_⟩
      intro w7 hw7
      dsimp only
      replace h := h.put 0 rfl hw7
      refine wk_ret (retQ_res1 [.slice none 0 0, .int .i64 (e : Int), .int .i64 off] rfl rfl (h.get 1 rfl) ?_)
      intro w11 hw11
      replace h := h.put 1 rfl hw11
      refine ⟨⟨by decide, ⟨⟨r2, 0, none⟩, rfl, run_loadVar1 rfl (h.cell 8 rfl rfl)⟩, by decide, ⟨⟨r3, 0, none⟩, rfl, run_loadVar1 rfl (h.cell 7 rfl rfl)⟩, by decide, ⟨⟨r4, 0, none⟩, rfl, run_loadVar1 rfl (h.cell 6 rfl rfl)⟩, trivial⟩, h.done, ?_⟩
      rw [hlex]
      rfl
end Go.Proofs
