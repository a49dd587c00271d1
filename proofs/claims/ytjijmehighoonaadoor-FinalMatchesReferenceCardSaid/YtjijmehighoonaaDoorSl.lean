/-
  Slices, strings: what they read as; index, length, slice expressions.
-/
import Derived.Test.YtjijmehighoonaaDoorHeap
set_option linter.unusedSimpArgs false
set_option linter.unnecessarySimpa false
set_option maxRecDepth 10000
set_option linter.unusedVariables false
namespace Go.Pd
variable {P : Program} {r : Option Nat} {n : Nat}

/-- A slice of elements of k cells each, whose cells are vs. -/
def Sl (w : World) (v : Value) (k : Nat) (vs : List Value) : Prop :=
  (v = .slice none 0 0 ∧ vs = []) ∨ ∃ b o m c, v = .slice (some ⟨b, o, none⟩) m c ∧ vs.length = m * k ∧ m ≤ c ∧ Row w b o vs

/-- Its block is none of M. -/
def Off (M : Nat → Prop) : Value → Prop
  | .slice (some a) _ _ => ¬ M a.block
  | _ => True

theorem Sl.upd {M : Nat → Prop} {w w' : World} {v : Value} {k : Nat} {vs : List Value} (h : Sl w v k vs) (e : Upd M w w') (hn : Off M v) : Sl w' v k vs := by
  rcases h with h | ⟨b, o, m, c, rfl, h1, h2, h3⟩
  · exact .inl h
  · exact .inr ⟨b, o, m, c, rfl, h1, h2, h3.upd e hn⟩

theorem off_false (v : Value) : Off (fun _ => False) v := by
  cases v with
  | slice a m c => cases a <;> simp [Off]
  | _ => trivial

theorem Sl.ext {w w' : World} {v : Value} {k : Nat} {vs : List Value} (h : Sl w v k vs) (e : Ext w w') : Sl w' v k vs := h.upd e (off_false v)

theorem Sl.nil (w : World) (k : Nat) : Sl w (.slice none 0 0) k [] := .inl ⟨rfl, rfl⟩

/-- Its shape: number of elements. -/
theorem Sl.shape {w : World} {v : Value} {k m : Nat} {vs : List Value} (h : Sl w v k vs) (hm : vs.length = m * k) (hk : 0 < k) : ∃ a c, v = .slice a m c ∧ m ≤ c := by
  rcases h with ⟨rfl, rfl⟩ | ⟨b, o, m', c, rfl, h1, h2, h3⟩
  · have : m = 0 := by
      simp at hm
      rcases Nat.mul_eq_zero.1 hm.symm with h | h
      · exact h
      · omega
    subst this
    exact ⟨none, 0, rfl, Nat.le_refl _⟩
  · have : m = m' := Nat.eq_of_mul_eq_mul_right hk (hm.symm.trans h1)
    subst this
    exact ⟨_, c, rfl, h2⟩

theorem Sl.ne {w : World} {v : Value} {k m : Nat} {vs : List Value} (h : Sl w v k vs) (hm : vs.length = m * k) (hk : 0 < k) (h0 : 0 < m) : ∃ b o c, v = .slice (some ⟨b, o, none⟩) m c ∧ m ≤ c ∧ Row w b o vs := by
  rcases h with ⟨rfl, rfl⟩ | ⟨b, o, m', c, rfl, h1, h2, h3⟩
  · simp at hm
    rcases Nat.mul_eq_zero.1 hm.symm with h | h <;> omega
  · have : m = m' := Nat.eq_of_mul_eq_mul_right hk (hm.symm.trans h1)
    subst this
    exact ⟨b, o, c, rfl, h2, h3⟩

theorem Sl.at {w : World} {a : Option Addr} {c k m : Nat} {vs : List Value} (h : Sl w (.slice a m c) k vs) (hm : vs.length = m * k) (hk : 0 < k) (h0 : 0 < m) : ∃ b o, a = some ⟨b, o, none⟩ ∧ Row w b o vs := by
  obtain ⟨b, o, c', h1, h2, h3⟩ := h.ne hm hk h0
  simp only [Value.slice.injEq] at h1
  exact ⟨b, o, h1.1, h3⟩

/-- Texts as lists of bytes. -/
@[irreducible] def str (l : List UInt8) : Value := .string ⟨l.toArray⟩
theorem str_eq (l : List UInt8) : str l = .string ⟨l.toArray⟩ := by unfold str; rfl
theorem str_inj {a b : List UInt8} (h : str a = str b) : a = b := by
  simp only [str_eq, Value.string.injEq, ByteArray.mk.injEq] at h
  simpa using congrArg Array.toList h
theorem string_str (s : ByteArray) : Value.string s = str s.data.toList := by simp [str_eq]

theorem toList_mk (l : List UInt8) : (⟨l.toArray⟩ : ByteArray).toList = l := by
  have h : ∀ (k : Nat) (acc : List UInt8), k ≤ l.length → ByteArray.toList.loop ⟨l.toArray⟩ k acc = acc.reverse ++ l.drop k := by
    intro k
    generalize hd : l.length - k = d
    induction d generalizing k with
    | zero =>
      intro acc hk
      have : k = l.length := by omega
      subst this
      unfold ByteArray.toList.loop
      simp [ByteArray.size]
    | succ d ih =>
      intro acc hk
      unfold ByteArray.toList.loop
      have hlt : k < l.length := by omega
      simp only [ByteArray.size, List.size_toArray, hlt, if_true]
      rw [ih (k + 1) (by omega) _ (by omega)]
      rw [List.drop_eq_getElem_cons hlt]
      have hg : (⟨l.toArray⟩ : ByteArray).get! k = l[k] := by
        show (l.toArray)[k]! = l[k]
        simp [hlt]
      rw [hg]
      simp
  have := h 0 [] (by omega)
  simpa [ByteArray.toList] using this

section
variable {ops : Array Oper} {K : St → World → Prop} {X : List PanicEntry → St → World → Prop} {l : List Oper} {s : St} {w : World}
variable {d : Nat} {ty : TypeId} {p : String} {af : Array Edge} {g : Option (Nat × Bool)}

theorem run_underlying' {t : TypeId} {u : TypeDesc} (h : P.underlying t = some u) (w : World) : (underlying t).run P w = .ok u w := by
  simp [underlying, program, bind, Sem.bind, Sem.run, pure, h]

theorem run_indexAt_slice {t e k j m c : Nat} {kk : IntKind} {i : Int} {b o : Nat} (hu : P.underlying t = some (.slice e)) (hs : sizeT P e = some k) (hi : i = (j : Int)) (hj : j < m) (w : World) :
    (Instr.indexAt t (.slice (some ⟨b, o, none⟩) m c) (.int kk i)).run P w = .ok (.pointer (some ⟨b, o + j * k, none⟩)) w := by
  subst hi
  unfold Instr.indexAt
  rw [sem_bind (a := (kk, (j : Int))) (w' := w) rfl]
  simp only
  rw [sem_bind (run_underlying' hu w)]
  simp only
  rw [sem_bind (a := (some ⟨b, o, none⟩, m, e)) (w' := w) rfl]
  simp only
  by_cases hm : m ≤ 1
  · rw [sem_bind (a := TypeDesc.slice e) (w' := w) (by rw [run_underlying' hu w])]
    have h1 : (0 : Int) ≤ (j : Int) ∧ (j : Int) < (m : Int) := ⟨by omega, by omega⟩
    simp only [h1, and_self, if_true]
    rw [sem_bind (run_sizeT hs w)]
    simp [pure, Sem.run, add_mk]
  · rw [sem_bind (a := TypeDesc.slice e) (w' := w) (by rw [run_underlying' hu w])]
    have h1 : (0 : Int) ≤ (j : Int) ∧ (j : Int) < (m : Int) := ⟨by omega, by omega⟩
    simp only [h1, and_self, if_true]
    rw [sem_bind (run_sizeT hs w)]
    simp [pure, Sem.run, add_mk]

theorem o_indexAddr {t e k m c : Nat} {x ix : Operand} {kk : IntKind} {i : Int} {a : Option Addr} {b o : Nat} (j : Nat) (ha : a = some ⟨b, o, none⟩) (hj : j < m) (hw : Region.wanted ⟨some d, .indexAddr t x ix, ty, p, af, g⟩ (yieldedE ops n s) = true) (hu : P.underlying t = some (.slice e)) (hs : sizeT P e = some k)
    (hx : rd n s x = .slice a m c) (hix : rd n s ix = .int kk i) (hi : i = (j : Int))
    (hk : OpsL P r n ops K X l (s.set d (.pointer (some ⟨b, o + j * k, none⟩))) w) : OpsL P r n ops K X (⟨some d, .indexAddr t x ix, ty, p, af, g⟩ :: l) s w := by
  subst ha
  refine o_val hw ?_ hk
  rw [Oper.semAt_eq _ _ _ (fun c e => by cases e)]
  simp only [execOp, hx, hix]
  rw [sem_bind (run_indexAt_slice hu hs hi hj w)]
  rfl

/-- s[i] of a text. -/
theorem o_index {t : Nat} {x ix : Operand} {kk : IntKind} {i : Int} {bs : List UInt8} (j : Nat) {c : UInt8} (hw : Region.wanted ⟨some d, .index t x ix, ty, p, af, g⟩ (yieldedE ops n s) = true) (hu : P.underlying t = some .string)
    (hx : rd n s x = str bs) (hix : rd n s ix = .int kk i) (hi : i = (j : Int)) (hj : bs[j]? = some c)
    (hk : OpsL P r n ops K X l (s.set d (.int .u8 (c.toNat : Int))) w) : OpsL P r n ops K X (⟨some d, .index t x ix, ty, p, af, g⟩ :: l) s w := by
  refine o_val hw ?_ hk
  rw [Oper.semAt_eq _ _ _ (fun c e => by cases e)]
  subst hi
  simp only [execOp, hx, hix, str_eq]
  rw [sem_bind (a := .int .u8 (c.toNat : Int)) (w' := w)]
  · rfl
  · unfold Instr.index
    rw [sem_bind (a := (kk, (j : Int))) (w' := w) rfl]
    simp only
    rw [sem_bind (run_underlying' hu w)]
    have h1 : (⟨bs.toArray⟩ : ByteArray)[j]? = some c := by
      have hlt : j < bs.length := (List.getElem?_eq_some_iff.1 hj).1
      rw [getElem?_pos _ _ (by simpa [ByteArray.size] using hlt)]
      have h2 : bs[j] = c := (List.getElem?_eq_some_iff.1 hj).2
      congr 1
    simp only [show (0 : Int) ≤ (j : Int) from by omega, if_true, Int.toNat_natCast, h1]
    rfl

theorem size_mk (bs : List UInt8) : (⟨bs.toArray⟩ : ByteArray).size = bs.length := by simp [ByteArray.size]

/-- '==' on texts. -/
theorem o_eqs {t yt : Nat} {x y : Operand} {a b : List UInt8} (hw : Region.wanted ⟨some d, .binOp .eql t x y yt, ty, p, af, g⟩ (yieldedE ops n s) = true) (hx : rd n s x = str a) (hy : rd n s y = str b)
    (hk : OpsL P r n ops K X l (s.set d (.bool (decide (a = b)))) w) : OpsL P r n ops K X (⟨some d, .binOp .eql t x y yt, ty, p, af, g⟩ :: l) s w := by
  refine o_val hw ?_ hk
  rw [Oper.semAt_eq _ _ _ (fun c e => by cases e)]
  simp only [execOp, hx, hy, str_eq, eqGuard, binOp, Op.stringOp, toList_mk]
  simp [bind, Sem.bind, pure, Sem.run]
  by_cases h : a = b <;> simp [h]

theorem o_nes {t yt : Nat} {x y : Operand} {a b : List UInt8} (hw : Region.wanted ⟨some d, .binOp .neq t x y yt, ty, p, af, g⟩ (yieldedE ops n s) = true) (hx : rd n s x = str a) (hy : rd n s y = str b)
    (hk : OpsL P r n ops K X l (s.set d (.bool (decide (a ≠ b)))) w) : OpsL P r n ops K X (⟨some d, .binOp .neq t x y yt, ty, p, af, g⟩ :: l) s w := by
  refine o_val hw ?_ hk
  rw [Oper.semAt_eq _ _ _ (fun c e => by cases e)]
  simp only [execOp, hx, hy, str_eq, eqGuard, binOp, Op.stringOp, toList_mk]
  simp [bind, Sem.bind, pure, Sem.run]
  by_cases h : a = b <;> simp [h]

/-- len of a text. -/
theorem o_lens {at_ : Array TypeId} {x : Operand} {a : List UInt8} (hw : Region.wanted ⟨some d, .call ⟨.builtin .len, #[x], at_⟩, ty, p, af, g⟩ (yieldedE ops n s) = true) (hu : (at_[0]?).bind P.underlying = some .string) (hx : rd n s x = str a)
    (hk : OpsL P r n ops K X l (s.set d (.int .i64 (a.length : Int))) w) : OpsL P r n ops K X (⟨some d, .call ⟨.builtin .len, #[x], at_⟩, ty, p, af, g⟩ :: l) s w := by
  refine o_val hw ?_ hk
  rw [Oper.semAt_eq _ _ _ (fun c e => by cases e)]
  cases ha : at_[0]? with
  | none => rw [ha] at hu; cases hu
  | some t =>
    rw [ha] at hu
    simp only [Option.bind_some] at hu
    simp only [execOp, resolve, List.map_toArray, List.map_cons, List.map_nil, hx, str_eq]
    rw [sem_bind (w' := w) rfl]
    simp only [invoke, builtin, Builtin.len_, ha]
    simp [sem_bind (run_underlying' hu w), size_mk, bind, Sem.bind, pure, Sem.run, underlying, program, hu, goInt]

/-- len of a slice. -/
theorem o_lenv {at_ : Array TypeId} {x : Operand} {e m c : Nat} {a : Option Addr} (hw : Region.wanted ⟨some d, .call ⟨.builtin .len, #[x], at_⟩, ty, p, af, g⟩ (yieldedE ops n s) = true) (hu : (at_[0]?).bind P.underlying = some (.slice e)) (hx : rd n s x = .slice a m c)
    (hk : OpsL P r n ops K X l (s.set d (.int .i64 (m : Int))) w) : OpsL P r n ops K X (⟨some d, .call ⟨.builtin .len, #[x], at_⟩, ty, p, af, g⟩ :: l) s w := by
  refine o_val hw ?_ hk
  rw [Oper.semAt_eq _ _ _ (fun c e => by cases e)]
  cases ha : at_[0]? with
  | none => rw [ha] at hu; cases hu
  | some t =>
    rw [ha] at hu
    simp only [Option.bind_some] at hu
    simp only [execOp, resolve, List.map_toArray, List.map_cons, List.map_nil, hx]
    rw [sem_bind (w' := w) rfl]
    simp only [invoke, builtin, Builtin.len_, ha]
    simp [bind, Sem.bind, pure, Sem.run, underlying, program, hu, goInt]

end

end Go.Pd
