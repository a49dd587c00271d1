/-
  A field of a struct value.
-/
import Derived.Test.YtpmjolbnmoejdaaGreatDoorQLD
set_option linter.unusedVariables false
set_option linter.unusedSimpArgs false
set_option linter.unnecessarySimpa false
set_option maxRecDepth 10000
namespace Go.Pd
open Go
end Go.Pd

set_option linter.unusedVariables false
set_option linter.unusedSimpArgs false
set_option linter.unnecessarySimpa false
set_option maxRecDepth 10000
namespace Go.Pd
open Go
section
variable {P : Program} {r : Option Nat} {n : Nat} {ops : Array Oper} {K : St → World → Prop} {X : List PanicEntry → St → World → Prop} {l : List Oper} {s : St} {w : World} {d : Nat} {ty : TypeId} {p : String} {af : Array Edge} {g : Option (Nat × Bool)}
theorem run_index_arr {t e len : Nat} {cs : Array Value} {kk : IntKind} {i : Int} {v : Value} (j : Nat) (hj : j < len) (hu : P.underlying t = some (.array len e)) (hA : aggT P e = some false) (hs : sizeT P e = some 1) (hi : i = (j : Int)) (hv : cs[j]? = some v) (w : World) : (Instr.index t (.agg cs) (.int kk i)).run P w = .ok v w := by
  subst hi
  unfold Instr.index
  rw [sem_bind (a := (kk, (j : Int))) (w' := w) rfl]
  simp only
  rw [sem_bind (run_underlying' hu w)]
  simp only
  rw [if_pos (by omega)]
  rw [sem_bind (run_sizeT hs w)]
  unfold part
  rw [sem_bind (run_isAgg hA w)]
  simp only [Bool.false_eq_true, if_false, Int.toNat_natCast, Nat.mul_one, hv]
  rfl
theorem a_idxv {t e len : Nat} {x ix : Operand} {cs : Array Value} {kk : IntKind} {i : Int} {v : Value} (j : Nat) (hv : cs[j]? = some v) (hk : OpsL P r n ops K X l (s.set d v) w) (hw : Region.wanted ⟨some d, .index t x ix, ty, p, af, g⟩ (yieldedE ops n s) = true := by rfl)
    (hu : P.underlying t = some (.array len e) := by rfl) (hA : aggT P e = some false := by rfl) (hs : sizeT P e = some 1 := by rfl) (hx : rd n s x = .agg cs := by rfl) (hix : rd n s ix = .int kk i := by rfl) (hj : j < len := by omega) (hi : i = (j : Int) := by omega) : OpsL P r n ops K X (⟨some d, .index t x ix, ty, p, af, g⟩ :: l) s w := by
  refine o_val (w' := w) hw ?_ hk
  rw [Oper.semAt_eq _ _ _ (fun c e => by cases e)]
  simp only [execOp, hx, hix]
  rw [sem_bind (run_index_arr j hj hu hA hs hi hv w)]
  rfl
theorem run_slice_arr {t e k len : Nat} {b : Nat} {kk : IntKind} {i : Int} (hi : Nat) (hu : P.underlying t = some (.array len e)) (hs : sizeT P e = some k) (hi1 : i = (hi : Int)) (h1 : hi ≤ len) (h0 : len ≠ 0) (w : World) :
    (Instr.sliceAt t (.pointer (some ⟨b, 0, none⟩)) none (some (.int kk i)) none).run P w = .ok (.slice (some ⟨b, 0, none⟩) hi len) w := by
  unfold Instr.sliceAt
  rw [sem_bind (run_underlying' hu w)]
  simp only
  rw [sem_bind (a := (⟨b, 0, none⟩ : Addr)) (w' := w) rfl]
  rw [sem_bind (a := (0, hi, len)) (w' := w)]
  · simp only
    rw [sem_bind (run_sizeT hs w)]
    rw [if_neg h0]
    simp only [Nat.zero_mul, Nat.sub_zero]
    rfl
  · unfold Instr.sliceBounds
    rw [sem_bind (a := len) (w' := w) (by simp [pure, Sem.run])]
    simp only
    rw [sem_bind (a := hi) (w' := w) (run_sliceBound hi1 h1 w)]
    rw [sem_bind (a := 0) (w' := w) (by simp [pure, Sem.run])]
    rfl
theorem a_cutA {t e k len : Nat} {x ix : Operand} {b : Nat} {kk : IntKind} {i : Int} (hi : Nat) (hk : OpsL P r n ops K X l (s.set d (.slice (some ⟨b, 0, none⟩) hi len)) w) (hw : Region.wanted ⟨some d, .slice t x none (some ix) none, ty, p, af, g⟩ (yieldedE ops n s) = true := by rfl)
    (hu : P.underlying t = some (.array len e) := by rfl) (hs : sizeT P e = some k := by rfl) (hx : rd n s x = .pointer (some ⟨b, 0, none⟩) := by rfl) (hix : rd n s ix = .int kk i := by rfl) (hi1 : i = (hi : Int) := by omega) (h1 : hi ≤ len := by omega) (h0 : len ≠ 0 := by decide) : OpsL P r n ops K X (⟨some d, .slice t x none (some ix) none, ty, p, af, g⟩ :: l) s w := by
  refine o_val (w' := w) hw ?_ hk
  rw [Oper.semAt_eq _ _ _ (fun c e => by cases e)]
  simp only [execOp, hx, hix, Option.map_some, Option.map_none]
  rw [sem_bind (run_slice_arr hi hu hs hi1 h1 h0 w)]
  rfl
theorem a_rem {xt yt : TypeId} {x y : Operand} {kk : IntKind} {a b : Int} (hk : OpsL P r n ops K X l (s.set d (.int kk (a % b))) w) (hw : Region.wanted ⟨some d, .binOp .rem xt x y yt, ty, p, af, g⟩ (yieldedE ops n s) = true := by rfl) (hx : rd n s x = .int kk a := by rfl) (hy : rd n s y = .int kk b := by rfl) (ha : 0 ≤ a := by omega) (hb : 0 < b := by omega) : OpsL P r n ops K X (⟨some d, .binOp .rem xt x y yt, ty, p, af, g⟩ :: l) s w := o_rem hw hx hy ha hb hk
theorem a_quo {xt yt : TypeId} {x y : Operand} {a b : Int} (hk : OpsL P r n ops K X l (s.set d (.int .i64 (a / b))) w) (hw : Region.wanted ⟨some d, .binOp .quo xt x y yt, ty, p, af, g⟩ (yieldedE ops n s) = true := by rfl) (hx : rd n s x = .int .i64 a := by rfl) (hy : rd n s y = .int .i64 b := by rfl) (ha : 0 ≤ a := by omega) (hb : 0 < b := by omega) (h2 : a / b ≤ 9223372036854775807 := by omega) : OpsL P r n ops K X (⟨some d, .binOp .quo xt x y yt, ty, p, af, g⟩ :: l) s w := o_quo hw hx hy ha hb (wrap_i64 ⟨by have := Int.ediv_nonneg ha (Int.le_of_lt hb); omega, h2⟩) hk
end
end Go.Pd

set_option linter.unusedVariables false
set_option linter.unusedSimpArgs false
set_option linter.unnecessarySimpa false
set_option maxRecDepth 10000
namespace Go.Pd
open Go
variable {P : Program} {r : Option Nat} {n : Nat}
theorem op1_monoX {ops : Array Oper} {K K' : St → World → Prop} {X X' : List PanicEntry → St → World → Prop} {i : Nat} {s : St} {w : World} (hk : ∀ s w, K s w → K' s w) (hx : ∀ c s w, X c s w → X' c s w) (h : Op1 P r n ops K X i s w) : Op1 P r n ops K' X' i s w := by
  unfold Op1 at *
  cases ho : ops[i]? with
  | none => simp only [ho] at h ⊢; exact hk _ _ h
  | some o =>
    simp only [ho] at h ⊢
    split
    · rename_i hw
      rw [if_pos hw] at h
      exact opW_mono hk (fun c w h => hx c s w h) h
    · rename_i hw
      rw [if_neg hw] at h
      exact hk _ _ h
theorem anyO_monoX {ops : Array Oper} {K : St → World → Prop} {X X' : List PanicEntry → St → World → Prop} (hx : ∀ c s w, X c s w → X' c s w) : ∀ (f : Nat) (listed : Array Bool) (s : St) (w : World), AnyO P r n ops K X f listed s w → AnyO P r n ops K X' f listed s w
  | 0, listed, s, w, h => h
  | f + 1, listed, s, w, h => ⟨h.1, fun i hi => op1_monoX (fun s w h => anyO_monoX hx f _ s w h) hx (h.2 i hi)⟩
theorem wk_lastQ {id : Nat} {ol ol' : List Oper} {o : Oper} {K : St → World → Prop} {Q : Exit → St → World → Prop} {s : St} {w : World} (H : List Nat) (hl : ol = ol' ++ [o]) (hchk : lastOk ol'.toArray o = true) (hok : regOk ol'.toArray H [] [] = true)
    (h : OpsQ P r n ol'.toArray [] (fun w' => Ext w w') (fun _ => True) (fun sT => ∀ w', Ext w w' → OpsL P r n ol.toArray K (fun c => Q (.panic c)) [o] sT w') H s) (hm : P.follows .mixedOrders = true := by rfl) : WK P r n (.region id ol.toArray true) K Q s w := by
  refine wk_last hl hchk (fun w' hw' => anyO_monoX (X := fun _ _ _ => False) (fun _ _ _ h => h.elim) _ _ _ _ ?_) hm
  exact any_draw H [] [] (fun w' => Ext w w') (fun _ => True) hok (fun _ _ _ _ h => h) (fun _ h => Upd.of_heap h) (fun _ _ => trivial) h w' hw'
end Go.Pd

set_option linter.unusedSimpArgs false
set_option linter.unnecessarySimpa false
set_option maxRecDepth 10000
set_option linter.unusedVariables false
namespace Go.Pd
section
variable {P : Program} {r : Option Nat} {n : Nat} {ops : Array Oper} {w0 : World} {K : St → World → Prop} {s : St} {H T : List Nat} {l : List (List Nat × List Nat)}
theorem g_tab (R : Nat → Value → World → Prop) (hst : ∀ i v w w', R i v w → Ext w w' → R i v w')
    (h : OpsX P r n ops w0 (fun sT => ∀ vs : Nat → Value, (∀ i ∈ T, Prem P r n ops T w0 R (fillv ops T sT vs) vs i) ∧ ∀ w1, Ext w0 w1 → (∀ i ∈ T, R i (vs i) w1) → SegG P r n ops K l w1 (fillv ops T sT vs)) H s) : SegG P r n ops K ((H, T) :: l) w0 s :=
  seg_cons h fun sT hk => ⟨R, hst, hk⟩
def Stb (R : Value → World → Prop) : Prop := ∀ v w w', R v w → Ext w w' → R v w'
theorem Stb.cond {R S : Value → World → Prop} (h : Stb R) (h' : Stb S) : ∀ b : Bool, Stb (bif b then R else S)
  | true => h
  | false => h'
end
def Own (w0 : World) (acc : List (Nat × Obj)) (w : World) : Prop := ∀ p ∈ acc, w0.heap.size ≤ p.1 ∧ w.heap[p.1]? = some p.2
theorem Own.ext {w0 w w' : World} {acc : List (Nat × Obj)} (h : Own w0 acc w) (e : Ext w w') : Own w0 acc w' := fun p hp => ⟨(h p hp).1, (e.same p.1 (Array.getElem?_eq_some_iff.1 (h p hp).2).1 (fun h => h)).trans (h p hp).2⟩
theorem Own.base {w0 w1 w : World} {acc : List (Nat × Obj)} (h : Own w1 acc w) (e : Ext w0 w1) : Own w0 acc w := fun p hp => ⟨Nat.le_trans e.size (h p hp).1, (h p hp).2⟩
theorem LH.toOwn {w0 w1 w : World} {acc : List (Nat × Obj)} (h : LH w1 (fun _ => False) w acc) (e : Ext w0 w1) : Own w0 acc w := fun p hp => ⟨(h.fresh p hp).elim (fun h => Nat.le_trans e.size h) False.elim, h.own p hp⟩
theorem LH.join1 {w0 w : World} {M : Nat → Prop} {bl : List (Nat × Obj)} {b : Nat} {o : Obj} (h : LH w0 M w bl) (hb : w0.heap.size ≤ b) (ho : w.heap[b]? = some o) (hne : ∀ p ∈ bl, p.2 ≠ o) : LH w0 M w ((b, o) :: bl) := by
  refine ⟨h.upd, fun p hp => ?_, fun p hp => ?_, ?_⟩
  · rcases List.mem_cons.1 hp with rfl | hp
    · exact ho
    · exact h.own p hp
  · rcases List.mem_cons.1 hp with rfl | hp
    · exact .inl hb
    · exact h.fresh p hp
  · rw [List.map_cons, List.nodup_cons]
    refine ⟨fun hm => ?_, h.nd⟩
    obtain ⟨p, hp, he⟩ := List.mem_map.1 hm
    have h1 := h.own p hp
    simp only at he
    rw [he, ho] at h1
    cases h1
    exact hne p hp rfl
theorem Acc.one {v : Value} {k m : Nat} {E : TypeId} {xs : List Value} {acc : List (Nat × Obj)} (h : Acc v k E m xs acc) (hm : 0 < m) : ∃ b cap junk, v = .slice (some ⟨b, 0, none⟩) m cap ∧ acc = [(b, .cells (xs ++ junk).toArray E (0, 0))] ∧ m ≤ cap ∧ cap ≤ maxLen ∧ (xs ++ junk).length = cap * k := by
  rcases h.2 with ⟨-, rfl, -⟩ | ⟨b, cap, cur, rfl, rfl, h1, h2, h3, h4⟩
  · omega
  · have hc : cur = (xs ++ cur.toList.drop (m * k)).toArray := by
      apply Array.ext'
      simp only [List.toList_toArray]
      rw [← h4, List.take_append_drop]
    refine ⟨b, cap, cur.toList.drop (m * k), rfl, by rw [← hc], h1, h2, ?_⟩
    rw [← h3, ← Array.length_toList]
    rw [← h4, List.take_append_drop]
theorem Acc.of_one {k m : Nat} {E : TypeId} {xs junk : List Value} {b cap : Nat} (hx : xs.length = m * k) (h1 : m ≤ cap) (h2 : cap ≤ maxLen) (h3 : (xs ++ junk).length = cap * k) : Acc (.slice (some ⟨b, 0, none⟩) m cap) k E m xs [(b, .cells (xs ++ junk).toArray E (0, 0))] :=
  ⟨hx, .inr ⟨b, cap, _, rfl, rfl, h1, h2, by simpa using h3, by simp [← hx]⟩⟩
theorem LH.addB {w0 w : World} {M : Nat → Prop} {l : List (Nat × Obj)} {b : Nat} {o : Obj} (h : LH w0 M w l) (hb : w.heap[b]? = some o) (hf : w0.heap.size ≤ b) (hn : ∀ p ∈ l, p.1 ≠ b) : LH w0 M w ((b, o) :: l) := by
  refine ⟨h.upd, fun p hp => ?_, fun p hp => ?_, ?_⟩
  · rcases List.mem_cons.1 hp with rfl | hp
    · exact hb
    · exact h.own p hp
  · rcases List.mem_cons.1 hp with rfl | hp
    · exact .inl hf
    · exact h.fresh p hp
  · rw [List.map_cons, List.nodup_cons]
    refine ⟨fun hm => ?_, h.nd⟩
    obtain ⟨p, hp, he⟩ := List.mem_map.1 hm
    exact hn p hp he
theorem LH.joinAcc {w0 w : World} {M : Nat → Prop} {bl acc : List (Nat × Obj)} {v : Value} {k m : Nat} {E : TypeId} {xs : List Value} (h : LH w0 M w bl) (ha : Acc v k E m xs acc) (ho : Own w0 acc w) (hne : ∀ p ∈ bl, ∀ c fz, p.2 ≠ .cells c E fz) : LH w0 M w (acc ++ bl) := by
  rcases ha.2 with ⟨-, -, rfl⟩ | ⟨b, cap, cur, -, rfl, -⟩
  · exact h
  · have h1 := ho _ List.mem_cons_self
    exact h.join1 h1.1 h1.2 fun p hp => hne p hp _ _
theorem LH.rb_ex {w0 w : World} {M0 : Nat → Prop} {bl : List (Nat × Obj)} (h : LH w0 M0 w bl) : ∃ M : Nat → Prop, (∀ b, M b → b ∈ bl.map (·.1)) ∧ LH w M w bl ∧ ∀ {w' : World} {l : List (Nat × Obj)}, LH w M w' l → LH w0 M0 w' l := ⟨_, fun _ h => h, h.rb, fun h' => h.bk h'⟩
theorem Acc.cells {v : Value} {k m : Nat} {E : TypeId} {xs : List Value} {acc : List (Nat × Obj)} (ha : Acc v k E m xs acc) : ∀ p ∈ acc, ∃ c T fz, p.2 = Obj.cells c T fz := fun p hp => by
  rcases ha.2 with ⟨-, -, rfl⟩ | ⟨b, cap, cur, -, rfl, -⟩
  · cases hp
  · rw [List.mem_singleton.1 hp]; exact ⟨_, _, _, rfl⟩
theorem LH.not_map {w0 w : World} {M : Nat → Prop} {bl : List (Nat × Obj)} {b c : Nat} {es : Array MapEntry} (h : LH w0 M w bl) (hc : ∀ p ∈ bl, ∃ c T fz, p.2 = Obj.cells c T fz) (hb : w.heap[b]? = some (.map es c)) : ¬ b ∈ bl.map (·.1) := fun hm => by
  obtain ⟨p, hp, he⟩ := List.mem_map.1 hm
  obtain ⟨c1, T, fz, h1⟩ := hc p hp
  have h2 := h.own p hp
  rw [he, hb, h1] at h2
  cases h2
end Go.Pd
