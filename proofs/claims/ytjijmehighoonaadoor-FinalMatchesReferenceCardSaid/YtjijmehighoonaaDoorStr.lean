/-
  Texts and slices cut and joined; conversions; max and min; addresses in arrays.
-/
import Derived.Test.YtjijmehighoonaaDoorNew
set_option linter.unusedSimpArgs false
set_option linter.unnecessarySimpa false
set_option maxRecDepth 10000
set_option linter.unusedVariables false
namespace Go.Pd
variable {P : Program} {r : Option Nat} {n : Nat}

theorem run_sliceBound {kk : IntKind} {j m : Nat} {c : BoundsCode} {i : Int} (hi : i = (j : Int)) (h : j ≤ m) (w : World) : (Instr.sliceBound (.int kk i) m c).run P w = .ok j w := by
  subst hi
  unfold Instr.sliceBound
  rw [sem_bind (a := (kk, (j : Int))) (w' := w) rfl]
  have : (0 : Int) ≤ (j : Int) ∧ (j : Int) ≤ (m : Int) := ⟨by omega, by omega⟩
  simp only [this, and_self, if_true]
  simp [pure, Sem.run]

theorem extract_mk (bs : List UInt8) (lo hi : Nat) : (⟨bs.toArray⟩ : ByteArray).extract lo hi = ⟨((bs.take hi).drop lo).toArray⟩ := by
  apply ByteArray.ext
  rw [ByteArray.data_extract]
  simp only [List.extract_toArray]
  congr 1
  simp [List.extract_eq_take_drop, List.drop_take]

theorem run_slice_str {t lo hi : Nat} {bs : List UInt8} {kk kl : IntKind} {i j : Int} (hu : P.underlying t = some .string) (hi1 : i = (lo : Int)) (hj : j = (hi : Int)) (h1 : lo ≤ hi) (h2 : hi ≤ bs.length) (w : World) :
    (Instr.sliceAt t (str bs) (some (.int kk i)) (some (.int kl j)) none).run P w = .ok (str ((bs.take hi).drop lo)) w := by
  unfold Instr.sliceAt
  rw [sem_bind (run_underlying' hu w)]
  simp only
  unfold Instr.slice
  rw [sem_bind (run_underlying' hu w)]
  simp only [str_eq, Option.isSome_none, Bool.false_eq_true, if_false]
  rw [sem_bind (a := (lo, hi, bs.length)) (w' := w)]
  · simp only [extract_mk]; rfl
  · unfold Instr.sliceBounds
    rw [sem_bind (a := bs.length) (w' := w) (by simp [size_mk, pure, Sem.run])]
    simp only
    rw [sem_bind (a := hi) (w' := w) (run_sliceBound hj h2 w)]
    rw [sem_bind (a := lo) (w' := w) (run_sliceBound hi1 h1 w)]
    rfl

theorem run_slice_str_lo {t lo : Nat} {bs : List UInt8} {kk : IntKind} {i : Int} (hu : P.underlying t = some .string) (hi1 : i = (lo : Int)) (h1 : lo ≤ bs.length) (w : World) :
    (Instr.sliceAt t (str bs) (some (.int kk i)) none none).run P w = .ok (str (bs.drop lo)) w := by
  unfold Instr.sliceAt
  rw [sem_bind (run_underlying' hu w)]
  simp only
  unfold Instr.slice
  rw [sem_bind (run_underlying' hu w)]
  simp only [str_eq, Option.isSome_none, Bool.false_eq_true, if_false]
  rw [sem_bind (a := (lo, bs.length, bs.length)) (w' := w)]
  · simp only [extract_mk, List.take_length]; rfl
  · unfold Instr.sliceBounds
    rw [sem_bind (a := bs.length) (w' := w) (by simp [size_mk, pure, Sem.run])]
    simp only
    rw [sem_bind (a := bs.length) (w' := w) (by simp [size_mk, pure, Sem.run])]
    rw [sem_bind (a := lo) (w' := w) (run_sliceBound hi1 h1 w)]
    rfl

theorem run_slice_str_hi {t hi : Nat} {bs : List UInt8} {kk : IntKind} {i : Int} (hu : P.underlying t = some .string) (hi1 : i = (hi : Int)) (h1 : hi ≤ bs.length) (w : World) :
    (Instr.sliceAt t (str bs) none (some (.int kk i)) none).run P w = .ok (str (bs.take hi)) w := by
  unfold Instr.sliceAt
  rw [sem_bind (run_underlying' hu w)]
  simp only
  unfold Instr.slice
  rw [sem_bind (run_underlying' hu w)]
  simp only [str_eq, Option.isSome_none, Bool.false_eq_true, if_false]
  rw [sem_bind (a := (0, hi, bs.length)) (w' := w)]
  · simp only [extract_mk, List.drop_zero]; rfl
  · unfold Instr.sliceBounds
    rw [sem_bind (a := bs.length) (w' := w) (by simp [size_mk, pure, Sem.run])]
    simp only
    rw [sem_bind (a := hi) (w' := w) (run_sliceBound hi1 h1 w)]
    rfl

/-- A slice cut: what its cells are. -/
theorem run_slice_sl {t e k m lo hi : Nat} {v : Value} {vs : List Value} {kk kl : IntKind} {i j : Int} {w : World} (hu : P.underlying t = some (.slice e)) (hs : sizeT P e = some k) (hv : Sl w v k vs) (hm : vs.length = m * k) (hk : 0 < k) (hi1 : i = (lo : Int)) (hj : j = (hi : Int)) (h1 : lo ≤ hi) (h2 : hi ≤ m) :
    ∃ v', (Instr.sliceAt t v (some (.int kk i)) (some (.int kl j)) none).run P w = .ok v' w ∧ Sl w v' k ((vs.take (hi * k)).drop (lo * k)) ∧ (∀ M, Off M v → Off M v') := by
  have key : ∀ (a : Option Addr) (c : Nat), hi ≤ c → (Instr.sliceAt t (.slice a m c) (some (.int kk i)) (some (.int kl j)) none).run P w = .ok (.slice (if c = lo then a else a.map (·.add (lo * k))) (hi - lo) (c - lo)) w := fun a c hc => by
    unfold Instr.sliceAt
    rw [sem_bind (run_underlying' hu w)]
    simp only
    unfold Instr.slice
    rw [sem_bind (run_underlying' hu w)]
    simp only
    rw [sem_bind (a := (lo, hi, c)) (w' := w)]
    · simp only
      rw [sem_bind (run_sizeT hs w)]
      rfl
    · unfold Instr.sliceBounds
      rw [sem_bind (a := c) (w' := w) (by simp [pure, Sem.run])]
      simp only
      rw [sem_bind (a := hi) (w' := w) (run_sliceBound hj hc w)]
      rw [sem_bind (a := lo) (w' := w) (run_sliceBound hi1 h1 w)]
      rfl
  rcases hv with ⟨rfl, rfl⟩ | ⟨b, o, m', c, rfl, h3, h4, h5⟩
  · have hm0 : m = 0 := by
      simp at hm
      rcases Nat.mul_eq_zero.1 hm.symm with h | h
      · exact h
      · omega
    subst hm0
    have hl : lo = 0 := by omega
    have hh : hi = 0 := by omega
    subst hl hh
    exact ⟨_, key none 0 (by omega), by simp [Sl], fun M h => by simp [Off]⟩
  · have hmm : m = m' := Nat.eq_of_mul_eq_mul_right hk (hm.symm.trans h3)
    subst hmm
    refine ⟨_, key _ c (by omega), ?_, fun M h => ?_⟩
    · by_cases hc : c = lo
      · rw [if_pos hc]
        have e1 : (vs.take (hi * k)).drop (lo * k) = [] := by
          have : hi = lo := by omega
          subst this
          rw [List.drop_eq_nil_iff]; simp; omega
        rw [e1]
        refine .inr ⟨b, o, hi - lo, c - lo, rfl, by have : hi = lo := by omega
                                                    simp [this], by omega, fun i v h => by simp at h⟩
      · rw [if_neg hc]
        simp only [Option.map_some, add_mk]
        refine .inr ⟨b, o + lo * k, hi - lo, c - lo, rfl, ?_, by omega, fun q v hq => ?_⟩
        · rw [List.length_drop, List.length_take, hm, Nat.sub_mul]
          have : hi * k ≤ m * k := Nat.mul_le_mul_right _ h2
          omega
        · rw [List.getElem?_drop, List.getElem?_take] at hq
          split at hq
          · have := h5 _ _ hq
            rw [← Nat.add_assoc] at this
            exact this
          · cases hq
    · simp only [Off] at h ⊢
      by_cases hc : c = lo
      · rw [if_pos hc]; exact h
      · rw [if_neg hc]; simp only [Option.map_some, add_mk]; exact h

section
variable {ops : Array Oper} {K : St → World → Prop} {X : List PanicEntry → St → World → Prop} {l : List Oper} {s : St} {w w0 : World} {M : Nat → Prop} {bl : List (Nat × Obj)}
variable {d : Nat} {ty : TypeId} {p : String} {af : Array Edge} {g : Option (Nat × Bool)}

/-- s[lo:hi] of a text. -/
theorem o_cut2 {t : Nat} {x lo hi : Operand} {bs : List UInt8} {kk kl : IntKind} {i j : Int} (a b : Nat) (h1 : a ≤ b) (h2 : b ≤ bs.length) (hw : Region.wanted ⟨some d, .slice t x (some lo) (some hi) none, ty, p, af, g⟩ (yieldedE ops n s) = true) (hu : P.underlying t = some .string)
    (hx : rd n s x = str bs) (hlo : rd n s lo = .int kk i) (hhi : rd n s hi = .int kl j) (hi1 : i = (a : Int)) (hj : j = (b : Int))
    (hk : OpsL P r n ops K X l (s.set d (str ((bs.take b).drop a))) w) : OpsL P r n ops K X (⟨some d, .slice t x (some lo) (some hi) none, ty, p, af, g⟩ :: l) s w := by
  refine o_val hw ?_ hk
  rw [Oper.semAt_eq _ _ _ (fun c e => by cases e)]
  simp only [execOp, hx, hlo, hhi, Option.map_some, Option.map_none]
  rw [sem_bind (run_slice_str hu hi1 hj h1 h2 w)]
  rfl

theorem o_cutL {t : Nat} {x lo : Operand} {bs : List UInt8} {kk : IntKind} {i : Int} (a : Nat) (h1 : a ≤ bs.length) (hw : Region.wanted ⟨some d, .slice t x (some lo) none none, ty, p, af, g⟩ (yieldedE ops n s) = true) (hu : P.underlying t = some .string)
    (hx : rd n s x = str bs) (hlo : rd n s lo = .int kk i) (hi1 : i = (a : Int))
    (hk : OpsL P r n ops K X l (s.set d (str (bs.drop a))) w) : OpsL P r n ops K X (⟨some d, .slice t x (some lo) none none, ty, p, af, g⟩ :: l) s w := by
  refine o_val hw ?_ hk
  rw [Oper.semAt_eq _ _ _ (fun c e => by cases e)]
  simp only [execOp, hx, hlo, Option.map_some, Option.map_none]
  rw [sem_bind (run_slice_str_lo hu hi1 h1 w)]
  rfl

theorem o_cutH {t : Nat} {x hi : Operand} {bs : List UInt8} {kk : IntKind} {i : Int} (a : Nat) (h1 : a ≤ bs.length) (hw : Region.wanted ⟨some d, .slice t x none (some hi) none, ty, p, af, g⟩ (yieldedE ops n s) = true) (hu : P.underlying t = some .string)
    (hx : rd n s x = str bs) (hlo : rd n s hi = .int kk i) (hi1 : i = (a : Int))
    (hk : OpsL P r n ops K X l (s.set d (str (bs.take a))) w) : OpsL P r n ops K X (⟨some d, .slice t x none (some hi) none, ty, p, af, g⟩ :: l) s w := by
  refine o_val hw ?_ hk
  rw [Oper.semAt_eq _ _ _ (fun c e => by cases e)]
  simp only [execOp, hx, hlo, Option.map_some, Option.map_none]
  rw [sem_bind (run_slice_str_hi hu hi1 h1 w)]
  rfl

/-- A slice cut on both sides. -/
theorem o_cutv {t e k m : Nat} {x lo hi : Operand} {v : Value} {vs : List Value} {kk kl : IntKind} {i j : Int} (a b : Nat) (hv : Sl w v k vs) (hm : vs.length = m * k) (h1 : a ≤ b) (h2 : b ≤ m) (hk0 : 0 < k) (hw : Region.wanted ⟨some d, .slice t x (some lo) (some hi) none, ty, p, af, g⟩ (yieldedE ops n s) = true) (hu : P.underlying t = some (.slice e)) (hs : sizeT P e = some k)
    (hx : rd n s x = v) (hlo : rd n s lo = .int kk i) (hhi : rd n s hi = .int kl j) (hi1 : i = (a : Int)) (hj : j = (b : Int))
    (hk : ∀ v', Sl w v' k ((vs.take (b * k)).drop (a * k)) → (∀ M, Off M v → Off M v') → OpsL P r n ops K X l (s.set d v') w) : OpsL P r n ops K X (⟨some d, .slice t x (some lo) (some hi) none, ty, p, af, g⟩ :: l) s w := by
  obtain ⟨v', hr, hv', ho⟩ := run_slice_sl (kk := kk) (kl := kl) hu hs hv hm hk0 hi1 hj h1 h2
  refine o_val hw ?_ (hk v' hv' ho)
  rw [Oper.semAt_eq _ _ _ (fun c e => by cases e)]
  simp only [execOp, hx, hlo, hhi, Option.map_some, Option.map_none]
  rw [sem_bind hr]
  rfl

theorem append_mk (a b : List UInt8) : (⟨a.toArray⟩ : ByteArray) ++ ⟨b.toArray⟩ = ⟨(a ++ b).toArray⟩ := by
  apply ByteArray.ext
  simp

/-- Texts joined. -/
theorem o_cat {t yt : Nat} {x y : Operand} {a b : List UInt8} (hlen : a.length + b.length ≤ 9223372036854775807) (hw : Region.wanted ⟨some d, .binOp .add t x y yt, ty, p, af, g⟩ (yieldedE ops n s) = true) (hx : rd n s x = str a) (hy : rd n s y = str b)
    (hk : OpsL P r n ops K X l (s.set d (str (a ++ b))) w) : OpsL P r n ops K X (⟨some d, .binOp .add t x y yt, ty, p, af, g⟩ :: l) s w := by
  refine o_val hw ?_ hk
  rw [Oper.semAt_eq _ _ _ (fun c e => by cases e)]
  have h1 : ¬ (((⟨a.toArray⟩ : ByteArray).size + (⟨b.toArray⟩ : ByteArray).size : Nat) : Int) > IntKind.i64.max := by
    rw [size_mk, size_mk]
    simp only [IntKind.max, IntKind.signed, IntKind.bits]
    simp; omega
  simp only [execOp, hx, hy, str_eq, eqGuard, binOp, Op.stringOp, append_mk, h1, if_false]
  simp [bind, Sem.bind, pure, Sem.run]

/-- From one kind of integer to another. -/
theorem o_conv {src dst : Nat} {x : Operand} {kk kl : IntKind} {a b : Int} {u : TypeDesc} (hw : Region.wanted ⟨some d, .convert src dst x, ty, p, af, g⟩ (yieldedE ops n s) = true) (h1 : P.underlying src = some u) (h2 : P.underlying dst = some (.int kl)) (hx : rd n s x = .int kk a) (hv : kl.wrap a = b)
    (hk : OpsL P r n ops K X l (s.set d (.int kl b)) w) : OpsL P r n ops K X (⟨some d, .convert src dst x, ty, p, af, g⟩ :: l) s w := by
  refine o_val hw ?_ hk
  rw [Oper.semAt_eq _ _ _ (fun c e => by cases e)]
  simp only [execOp, hx]
  subst hv
  rw [sem_bind (a := .int kl (kl.wrap a)) (w' := w)]
  · rfl
  · unfold convert
    rw [sem_bind (run_underlying' h1 w), sem_bind (run_underlying' h2 w)]
    cases u <;> rfl

theorem o_max {ats : Array TypeId} {x y : Operand} {kk : IntKind} {a b : Int} (hw : Region.wanted ⟨some d, .call ⟨.builtin .max, #[x, y], ats⟩, ty, p, af, g⟩ (yieldedE ops n s) = true) (hx : rd n s x = .int kk a) (hy : rd n s y = .int kk b)
    (hk : OpsL P r n ops K X l (s.set d (.int kk (max a b))) w) : OpsL P r n ops K X (⟨some d, .call ⟨.builtin .max, #[x, y], ats⟩, ty, p, af, g⟩ :: l) s w := by
  refine o_val hw ?_ hk
  rw [Oper.semAt_eq _ _ _ (fun c e => by cases e)]
  have e1 : (if b > a then b else a) = max a b := by
    by_cases h : b > a
    · rw [if_pos h]; omega
    · rw [if_neg h]; omega
  simp only [execOp, resolve, List.map_toArray, List.map_cons, List.map_nil, hx, hy]
  rw [sem_bind (w' := w) rfl]
  simp [invoke, builtin, Builtin.max_, Builtin.max2, bind, Sem.bind, pure, Sem.run, e1]

theorem o_min {ats : Array TypeId} {x y : Operand} {kk : IntKind} {a b : Int} (hw : Region.wanted ⟨some d, .call ⟨.builtin .min, #[x, y], ats⟩, ty, p, af, g⟩ (yieldedE ops n s) = true) (hx : rd n s x = .int kk a) (hy : rd n s y = .int kk b)
    (hk : OpsL P r n ops K X l (s.set d (.int kk (min a b))) w) : OpsL P r n ops K X (⟨some d, .call ⟨.builtin .min, #[x, y], ats⟩, ty, p, af, g⟩ :: l) s w := by
  refine o_val hw ?_ hk
  rw [Oper.semAt_eq _ _ _ (fun c e => by cases e)]
  have e1 : (if b < a then b else a) = min a b := by
    by_cases h : b < a
    · rw [if_pos h]; omega
    · rw [if_neg h]; omega
  simp only [execOp, resolve, List.map_toArray, List.map_cons, List.map_nil, hx, hy]
  rw [sem_bind (w' := w) rfl]
  simp [invoke, builtin, Builtin.min_, Builtin.min2, bind, Sem.bind, pure, Sem.run, e1]

/-- The address of an element of an array. -/
theorem o_indexArr {t e k len : Nat} {x ix : Operand} {kk : IntKind} {i : Int} {b o : Nat} (j : Nat) (hj : j < len) (hw : Region.wanted ⟨some d, .indexAddr t x ix, ty, p, af, g⟩ (yieldedE ops n s) = true) (hu : P.underlying t = some (.array len e)) (hs : sizeT P e = some k)
    (hx : rd n s x = .pointer (some ⟨b, o, none⟩)) (hix : rd n s ix = .int kk i) (hi : i = (j : Int))
    (hk : OpsL P r n ops K X l (s.set d (.pointer (some ⟨b, o + j * k, none⟩))) w) : OpsL P r n ops K X (⟨some d, .indexAddr t x ix, ty, p, af, g⟩ :: l) s w := by
  refine o_val hw ?_ hk
  rw [Oper.semAt_eq _ _ _ (fun c e => by cases e)]
  subst hi
  simp only [execOp, hx, hix]
  rw [sem_bind (a := .pointer (some ⟨b, o + j * k, none⟩)) (w' := w)]
  · rfl
  · unfold Instr.indexAt
    rw [sem_bind (a := (kk, (j : Int))) (w' := w) rfl]
    simp only
    rw [sem_bind (run_underlying' hu w)]
    simp only
    rw [sem_bind (a := (⟨b, o, none⟩ : Addr)) (w' := w) rfl]
    rw [sem_bind (a := (some (⟨b, o, none⟩ : Addr), len, e)) (w' := w) rfl]
    have h1 : (0 : Int) ≤ (j : Int) ∧ (j : Int) < (len : Int) := ⟨by omega, by omega⟩
    rw [sem_bind (a := TypeDesc.array len e) (w' := w) (run_underlying' hu w)]
    simp only [h1, and_self, if_true]
    rw [sem_bind (run_sizeT hs w)]
    simp [pure, Sem.run, add_mk]
end

theorem wrap_u8 {x : Int} (h : 0 ≤ x ∧ x ≤ 255) : IntKind.wrap .u8 x = x := by
  simp only [IntKind.wrap, IntKind.bits, IntKind.signed]
  simp
  omega
end Go.Pd
