/-
  A network among what a caller has, and slices that the caller keeps.
-/
import Derived.Test.YthiiodbjmcafgaaNeQ
import Derived.Test.YthiiodbjmcafgaaNeN
set_option linter.unusedVariables false
set_option linter.unusedSimpArgs false
set_option linter.unnecessarySimpa false
set_option maxRecDepth 10000
namespace Go.Proofs
open Go Go.Pd Go.Ne
attribute [local irreducible] OpsL W RetQ OpsQ OpsC
def HasK (w0 : World) (s : Net) (p : Nat) (ks : List (Value × List Tx)) (w : World) : Prop := Bd s ∧ ∃ bl, LH w0 (fun _ => False) w bl ∧ NetR (fun _ => False) s p bl w ∧ ∀ q ∈ ks, SlO (Go.Pd.In bl) w q.1 1 (strL q.2)
section
variable {w0 : World} {s : Net} {p : Nat} {ks : List (Value × List Tx)} {w : World}
theorem Has1.k (h : Has1 w0 s p w) : HasK w0 s p [] w := by
  obtain ⟨h0, bl, h1, h2⟩ := h
  exact ⟨h0, bl, h1, h2, fun _ h => nomatch h⟩
theorem HasK.ext {w' : World} (h : HasK w0 s p ks w) (e : Ext w w') : HasK w0 s p ks w' := by
  obtain ⟨h0, bl, h1, h2, h3⟩ := h
  exact ⟨h0, bl, h1.ext e, h2.ext e, fun q hq => (h3 q hq).ext e⟩
theorem HasK.done (h : HasK w0 s p ks w) : Ext w0 w := by
  obtain ⟨-, bl, h1, -⟩ := h
  exact h1.done
theorem HasK.np (h : HasK w0 s p ks w) : 1 ≤ s.n ∧ s.n ≤ 8 := by
  obtain ⟨-, bl, -, ⟨D, -, -, -, hok, -⟩, -⟩ := h
  exact hok.np
theorem HasK.sl (h : HasK w0 s p ks w) {q : Value × List Tx} (hq : q ∈ ks) : Sl w q.1 1 (strL q.2) := by
  obtain ⟨-, bl, -, -, h3⟩ := h
  exact (h3 q hq).1
theorem HasK.drop (h : HasK w0 s p ks w) {ks' : List (Value × List Tx)} (hk : ∀ q ∈ ks', q ∈ ks) : HasK w0 s p ks' w := by
  obtain ⟨h0, bl, h1, h2, h3⟩ := h
  exact ⟨h0, bl, h1, h2, fun q hq => h3 q (hk q hq)⟩
/-- An answer in fresh memory is kept. -/
theorem HasK.keep (h : HasK w0 s p ks w) {w' : World} {v : Value} {l : List Tx} (hf : Fresh w w' v l) : HasK w0 s p ((v, l) :: ks) w' := by
  obtain ⟨h0, bl, h1, h2, h3⟩ := h
  obtain ⟨acc, hl, ha⟩ := hf
  refine ⟨h0, bl, h1.ext hl.done, h2.ext hl.done, fun q hq => ?_⟩
  rcases List.mem_cons.1 hq with rfl | hq
  · exact SlO.fresh hl ha fun z hz => h1.lt hz
  · exact (h3 q hq).ext hl.done
theorem HasK.step {s' : Net} {w' : World} {bl bl' : List (Nat × Obj)} (h1 : LH w0 (fun _ => False) w bl) (h3 : ∀ q ∈ ks, SlO (Go.Pd.In bl) w q.1 1 (strL q.2)) (hb : Bd s') (h4 : LH w (Go.Pd.In bl) w' bl') (h5 : NetR (fun _ => False) s' p bl' w') : HasK w0 s' p ks w' :=
  ⟨hb, bl', h1.bk h4, h5, fun q hq => (h3 q hq).step h4⟩
theorem HasK.send (h : HasK w0 s p ks w) (a b : Nat) : Calls Try.prog 15 #[.pointer (some ⟨p, 0, none⟩), .int .i64 (a : Int), .int .i64 (b : Int)] w (fun e w' => ∃ v, e = .returned v ∧ v = .int .i64 (sendE s a b : Int) ∧ HasK w0 (send s a b) p ks w') := by
  obtain ⟨h0, bl, h1, h2, h3⟩ := h
  refine (send_calls h2 a b (fun a => Nat.le_trans (h0.len a) (by omega)) h0.q).mono ?_
  rintro e w' ⟨v, rfl, rfl, bl', h4, h5⟩
  exact ⟨_, rfl, rfl, .step h1 h3 (h0.send a b) h4 h5⟩
theorem HasK.deliver (h : HasK w0 s p ks w) (a b : Nat) (lost again : Bool) : Calls Try.prog 17 #[.pointer (some ⟨p, 0, none⟩), .int .i64 (a : Int), .int .i64 (b : Int), .bool lost, .bool again] w (fun e w' => ∃ v, e = .returned v ∧ v = .bool (delivB s a b) ∧ HasK w0 (deliver s a b lost again) p ks w') := by
  obtain ⟨h0, bl, h1, h2, h3⟩ := h
  refine (deliver_calls h2 a b lost again (fun a => Nat.le_trans (h0.len a) (by omega)) (fun x y m hm => Nat.le_trans (h0.m x y m hm) (by omega))).mono ?_
  rintro e w' ⟨v, rfl, rfl, bl', h4, h5⟩
  exact ⟨_, rfl, rfl, .step h1 h3 (h0.deliver a b lost again) h4 h5⟩
theorem HasK.cut (h : HasK w0 s p ks w) (a b : Nat) (off : Bool) : Calls Try.prog 19 #[.pointer (some ⟨p, 0, none⟩), .int .i64 (a : Int), .int .i64 (b : Int), .bool off] w (fun e w' => ∃ v, e = .returned v ∧ v = .int .i64 (setE s a b : Int) ∧ HasK w0 (setCut s a b off) p ks w') := by
  obtain ⟨h0, bl, h1, h2, h3⟩ := h
  refine (cut_calls h2 a b off).mono ?_
  rintro e w' ⟨v, rfl, rfl, bl', h4, h5⟩
  exact ⟨_, rfl, rfl, .step h1 h3 (h0.setCut a b off) h4 h5⟩
theorem HasK.has (h : HasK w0 s p ks w) (i : Nat) : Calls Try.prog 22 #[.pointer (some ⟨p, 0, none⟩), .int .i64 (i : Int)] w (fun e w' => ∃ v, e = .returned v ∧ HasK w0 s p ((v, has s i) :: ks) w') := by
  have hk := h
  obtain ⟨h0, bl, h1, h2, h3⟩ := h
  refine (has_calls h2 i (fun a => Nat.le_trans (h0.len a) (by omega))).mono ?_
  rintro e w' ⟨v, rfl, hf⟩
  exact ⟨v, rfl, hk.keep hf⟩
theorem HasK.lacks (h : HasK w0 s p ks w) (a b : Nat) : Calls Try.prog 24 #[.pointer (some ⟨p, 0, none⟩), .int .i64 (a : Int), .int .i64 (b : Int)] w (fun e w' => ∃ v, e = .returned v ∧ HasK w0 s p ((v, lacks s a b) :: ks) w') := by
  have hk := h
  obtain ⟨h0, bl, h1, h2, h3⟩ := h
  refine (lacks_calls h2 a b (fun a => Nat.le_trans (h0.len a) (by omega))).mono ?_
  rintro e w' ⟨v, rfl, hf⟩
  exact ⟨v, rfl, hk.keep hf⟩
theorem HasK.doOp (h : HasK w0 s p ks w) (o : Opn) (ho : OpOK o) {n : Nat} (hn : n = s.n) : Calls Try.prog 27 #[.pointer (some ⟨p, 0, none⟩), .int .i64 (n : Int), .agg (opC o).toArray] w (fun e w' => ∃ v, e = .returned v ∧ HasK w0 (doOp s o) p ks w') := by
  subst hn
  obtain ⟨h0, bl, h1, h2, h3⟩ := h
  refine (do_calls h2 ⟨fun a => Nat.le_trans (h0.len a) (by omega), h0.q, fun x y m hm => Nat.le_trans (h0.m x y m hm) (by omega)⟩ o ho).mono ?_
  rintro e w' ⟨v, rfl, bl', h4, h5⟩
  exact ⟨_, rfl, .step h1 h3 (h0.doOp o) h4 h5⟩
theorem HasK.views (h : HasK w0 s p ks w) {n : Nat} (hn : n = s.n) : Calls Try.prog 30 #[.pointer (some ⟨p, 0, none⟩), .int .i64 (n : Int)] w (fun e w' => ∃ v, e = .returned v ∧ HasK w0 s p ((v, vAll s s.n) :: ks) w') := by
  subst hn
  have hk := h
  obtain ⟨h0, bl, h1, h2, h3⟩ := h
  refine (views_calls h2 (fun a => Nat.le_trans (h0.len a) (by omega))).mono ?_
  rintro e w' ⟨v, rfl, hf⟩
  exact ⟨v, rfl, hk.keep hf⟩
end
end Go.Proofs
