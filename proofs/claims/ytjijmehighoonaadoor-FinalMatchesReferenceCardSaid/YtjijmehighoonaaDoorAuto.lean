/-
  Steps that find their block by themselves.
-/
import Derived.Test.YtjijmehighoonaaDoorJoin
set_option linter.unusedSimpArgs false
set_option linter.unnecessarySimpa false
set_option maxRecDepth 10000
set_option linter.unusedVariables false
namespace Go.Pd
variable {P : Program} {r : Option Nat} {n : Nat}

/-- One cell of one block is given another content. -/
inductive Put (b o : Nat) (v : Value) : List (Nat × Obj) → List (Nat × Obj) → Prop
  | here {vs vs' : List Value} {T : TypeId} {l : List (Nat × Obj)} : Nat.blt o vs.length = true → vs.set o v = vs' → Put b o v ((b, .cells vs.toArray T (0, 0)) :: l) ((b, .cells vs'.toArray T (0, 0)) :: l)
  | there {p : Nat × Obj} {l l' : List (Nat × Obj)} : Put b o v l l' → Put b o v (p :: l) (p :: l')

theorem Put.at {b o : Nat} {v : Value} {l l' : List (Nat × Obj)} (h : Put b o v l l') : ∃ (i : Nat) (vs : List Value) (T : TypeId), l[i]? = some (b, .cells vs.toArray T (0, 0)) ∧ o < vs.length ∧ l' = l.set i (b, .cells (vs.set o v).toArray T (0, 0)) := by
  induction h with
  | @here vs vs' T l h1 h2 => exact ⟨0, vs, T, rfl, Nat.le_of_ble_eq_true h1, by rw [h2]; rfl⟩
  | there _ ih =>
    obtain ⟨i, vs, T, h1, h2, h3⟩ := ih
    exact ⟨i + 1, vs, T, h1, h2, by rw [h3]; rfl⟩

/-- Several cells. -/
inductive PutN (b o : Nat) (us : List Value) : List (Nat × Obj) → List (Nat × Obj) → Prop
  | here {vs vs' : List Value} {T : TypeId} {l : List (Nat × Obj)} : Nat.ble (o + us.length) vs.length = true → putL vs o us = vs' → PutN b o us ((b, .cells vs.toArray T (0, 0)) :: l) ((b, .cells vs'.toArray T (0, 0)) :: l)
  | all {vs : List Value} {T : TypeId} {l : List (Nat × Obj)} : o = 0 → us.length = vs.length → PutN b o us ((b, .cells vs.toArray T (0, 0)) :: l) ((b, .cells us.toArray T (0, 0)) :: l)
  | there {p : Nat × Obj} {l l' : List (Nat × Obj)} : PutN b o us l l' → PutN b o us (p :: l) (p :: l')

theorem PutN.at {b o : Nat} {us : List Value} {l l' : List (Nat × Obj)} (h : PutN b o us l l') : ∃ (i : Nat) (vs : List Value) (T : TypeId), l[i]? = some (b, .cells vs.toArray T (0, 0)) ∧ o + us.length ≤ vs.length ∧ l' = l.set i (b, .cells (putL vs o us).toArray T (0, 0)) := by
  induction h with
  | @here vs vs' T l h1 h2 => exact ⟨0, vs, T, rfl, Nat.le_of_ble_eq_true h1, by rw [h2]; rfl⟩
  | @all vs T l h1 h2 =>
    subst h1
    exact ⟨0, vs, T, rfl, by omega, by rw [putL_all us vs 0 (by omega)]; rfl⟩
  | there _ ih =>
    obtain ⟨i, vs, T, h1, h2, h3⟩ := ih
    exact ⟨i + 1, vs, T, h1, h2, by rw [h3]; rfl⟩

def Cell1 (v : Value) : Prop := v.cells = #[v] ∧ v.oneCell' = true
theorem cell1_str (l : List UInt8) : Cell1 (str l) := by rw [str_eq]; exact ⟨rfl, rfl⟩
theorem oneCell_str (l : List UInt8) : (str l).oneCell' = true := (cell1_str l).2

section
variable {ops : Array Oper} {K : St → World → Prop} {X : List PanicEntry → St → World → Prop} {l : List Oper} {s : St} {w w0 : World} {M : Nat → Prop} {bl bl' : List (Nat × Obj)}
variable {d : Nat} {ty : TypeId} {p : String} {af : Array Edge} {g : Option (Nat × Bool)}

theorem o_put1 {t : TypeId} {a x : Operand} {b o : Nat} {v : Value} (hl : LH w0 M w bl) (hw : Region.wanted ⟨none, .store t a x, ty, p, af, g⟩ (yieldedE ops n s) = true) (ha : rd n s a = .pointer (some ⟨b, o, none⟩))
    (hx : rd n s x = v) (hv : Cell1 v) (hs : sizeT P t = some 1) (hp : Put b o v bl bl')
    (hk : ∀ w', LH w0 M w' bl' → OpsL P r n ops K X l s w') : OpsL P r n ops K X (⟨none, .store t a x, ty, p, af, g⟩ :: l) s w := by
  obtain ⟨i, vs, T, h1, h2, rfl⟩ := hp.at
  refine o_store hl i [v] hw ha h1 (by rw [hx, hv.1]) hs (by simp; omega) (by simp [hv.2]) fun w' hl' => hk w' ?_
  exact hl'

theorem o_putN {t : TypeId} {a x : Operand} {b o : Nat} {us : List Value} (hl : LH w0 M w bl) (hw : Region.wanted ⟨none, .store t a x, ty, p, af, g⟩ (yieldedE ops n s) = true) (ha : rd n s a = .pointer (some ⟨b, o, none⟩))
    (hx : rd n s x = .agg us.toArray) (h1 : us.all Value.oneCell' = true) (hs : sizeT P t = some us.length) (hp : PutN b o us bl bl')
    (hk : ∀ w', LH w0 M w' bl' → OpsL P r n ops K X l s w') : OpsL P r n ops K X (⟨none, .store t a x, ty, p, af, g⟩ :: l) s w := by
  obtain ⟨i, vs, T, h3, h2, rfl⟩ := hp.at
  exact o_store hl i us hw ha h3 (by rw [hx]; rfl) hs h2 h1 hk

theorem o_fa2 {st f off b o o' : Nat} {x : Operand} (hw : Region.wanted ⟨some d, .fieldAddr st x f, ty, p, af, g⟩ (yieldedE ops n s) = true) (hx : rd n s x = .pointer (some ⟨b, o, none⟩)) (hf : fieldT P st f = some off) (ho : o + off = o')
    (hk : OpsL P r n ops K X l (s.set d (.pointer (some ⟨b, o', none⟩))) w) : OpsL P r n ops K X (⟨some d, .fieldAddr st x f, ty, p, af, g⟩ :: l) s w := by
  subst ho
  exact o_fa hw hx hf hk

/-- s[j] of a text. -/
theorem o_ix {t : Nat} {x ix : Operand} {kk : IntKind} {i : Int} {bs : List UInt8} {j : Nat} (h : j < bs.length) (hw : Region.wanted ⟨some d, .index t x ix, ty, p, af, g⟩ (yieldedE ops n s) = true) (hu : P.underlying t = some .string)
    (hx : rd n s x = str bs) (hix : rd n s ix = .int kk i) (hi : i = (j : Int))
    (hk : OpsL P r n ops K X l (s.set d (.int .u8 (bs[j].toNat : Int))) w) : OpsL P r n ops K X (⟨some d, .index t x ix, ty, p, af, g⟩ :: l) s w :=
  o_index (c := bs[j]) j hw hu hx hix hi (by simp [h]) hk

end

theorem r_binK {k : Nat} {s : St} {bo : BinOp} {xt yt ty : TypeId} {x y : Operand} {kk : IntKind} {a b c : Int} {p : String} {af : Array Edge} {g : Option (Nat × Bool)} {w : World} (hx : rd n s x = .int kk a) (hy : rd n s y = .int kk b) (hv : binN bo a b = some c) (hc : kk.wrap c = c) :
    (Oper.semAt r (rd n s) ⟨some k, .binOp bo xt x y yt, ty, p, af, g⟩).run P w = .ok (.value (.int kk c)) w := by
  refine r_binI hx hy ?_
  cases bo <;> simp only [binN, Option.some.injEq, reduceCtorEq] at hv <;> subst hv <;> simp only [binI] <;> rw [hc]

theorem r_fa2 {s : St} {w : World} {ty : TypeId} {p : String} {af : Array Edge} {g : Option (Nat × Bool)} {d st f off b o o' : Nat} {x : Operand} (hx : rd n s x = .pointer (some ⟨b, o, none⟩)) (hf : fieldT P st f = some off) (ho : o + off = o') : (Oper.semAt r (rd n s) ⟨some d, .fieldAddr st x f, ty, p, af, g⟩).run P w = .ok (.value (.pointer (some ⟨b, o', none⟩))) w := by
  subst ho
  exact r_fa hx hf

section
variable {ops : Array Oper} {E : List Nat} {C C2 : World → Prop} {K : St → Prop} {i : Nat} {l : List Nat} {s : St} {k : Nat} {ty : TypeId} {p : String} {af : Array Edge} {g : Option (Nat × Bool)}
theorem q_binT {bo : BinOp} {xt yt : TypeId} {x y : Operand} {kk : IntKind} {a b : Int} {q : Prop} [Decidable q] (ho : ops[i]? = some ⟨some k, .binOp bo xt x y yt, ty, p, af, g⟩) (hw : Region.wanted ⟨some k, .binOp bo xt x y yt, ty, p, af, g⟩ (yieldedE ops n s) = true) (hx : rd n s x = .int kk a) (hy : rd n s y = .int kk b) (hv : binC bo a b = some (decide q))
    (ht : q → OpsQ P r n ops E C C2 K l (s.set k (.bool true))) (hf : ¬ q → OpsQ P r n ops E C C2 K l (s.set k (.bool false))) : OpsQ P r n ops E C C2 K (i :: l) s := by
  refine q_pur ho hw rfl (fun _ => r_binC hx hy hv) ?_
  by_cases h : q
  · rw [decide_eq_true h]; exact ht h
  · rw [decide_eq_false h]; exact hf h
theorem q_nesT {xt yt : TypeId} {x y : Operand} {a b : List UInt8} (ho : ops[i]? = some ⟨some k, .binOp .neq xt x y yt, ty, p, af, g⟩) (hw : Region.wanted ⟨some k, .binOp .neq xt x y yt, ty, p, af, g⟩ (yieldedE ops n s) = true) (hx : rd n s x = str a) (hy : rd n s y = str b)
    (ht : a ≠ b → OpsQ P r n ops E C C2 K l (s.set k (.bool true))) (hf : a = b → OpsQ P r n ops E C C2 K l (s.set k (.bool false))) : OpsQ P r n ops E C C2 K (i :: l) s := by
  refine q_pur ho hw rfl (fun _ => r_nes hx hy) ?_
  by_cases h : a = b
  · rw [decide_eq_false (fun h' => h' h)]; exact hf h
  · rw [decide_eq_true h]; exact ht h
theorem q_eqsT {xt yt : TypeId} {x y : Operand} {a b : List UInt8} (ho : ops[i]? = some ⟨some k, .binOp .eql xt x y yt, ty, p, af, g⟩) (hw : Region.wanted ⟨some k, .binOp .eql xt x y yt, ty, p, af, g⟩ (yieldedE ops n s) = true) (hx : rd n s x = str a) (hy : rd n s y = str b)
    (ht : a = b → OpsQ P r n ops E C C2 K l (s.set k (.bool true))) (hf : a ≠ b → OpsQ P r n ops E C C2 K l (s.set k (.bool false))) : OpsQ P r n ops E C C2 K (i :: l) s := by
  refine q_pur ho hw rfl (fun _ => r_eqs hx hy) ?_
  by_cases h : a = b
  · rw [decide_eq_true h]; exact ht h
  · rw [decide_eq_false h]; exact hf h
end

/-- An element of a list laid out cell by cell. -/
theorem flat_get {α : Type} {f : α → List Value} {c : Nat} (hf : ∀ t, (f t).length = c) : ∀ (l : List α) (k j : Nat) (t : α), l[k]? = some t → j < c → (l.flatMap f)[k * c + j]? = (f t)[j]?
  | [], k, j, t, h, _ => by simp at h
  | a :: l, 0, j, t, h, hj => by
    simp at h; subst h
    rw [List.flatMap_cons, Nat.zero_mul, Nat.zero_add, List.getElem?_append_left (by rw [hf]; exact hj)]
  | a :: l, k + 1, j, t, h, hj => by
    have h1 := flat_get hf l k j t (by simpa using h) hj
    have h2 := hf a
    rw [List.flatMap_cons, List.getElem?_append_right (by rw [h2, Nat.add_mul]; omega), h2]
    rw [show (k + 1) * c + j - c = k * c + j by rw [Nat.add_mul]; omega]
    exact h1

theorem flat_length {α : Type} {f : α → List Value} {c : Nat} (hf : ∀ t, (f t).length = c) (l : List α) : (l.flatMap f).length = l.length * c := by
  induction l with
  | nil => simp
  | cons a l ih => rw [List.flatMap_cons, List.length_append, ih, hf, List.length_cons, Nat.add_mul]; omega

theorem Row.elem {α : Type} {f : α → List Value} {c : Nat} (hf : ∀ t, (f t).length = c) {w : World} {b o : Nat} {l : List α} (h : Row w b o (l.flatMap f)) {k : Nat} {t : α} (hk : l[k]? = some t) : Row w b (o + k * c) (f t) := by
  intro j v hj
  have hlt : j < c := by rw [← hf t]; exact (List.getElem?_eq_some_iff.1 hj).1
  have := h (k * c + j) v (by rw [flat_get hf l k j t hk hlt]; exact hj)
  rwa [← Nat.add_assoc] at this

theorem Row.heap {w w' : World} {b o : Nat} {vs : List Value} (h : Row w b o vs) (e : To w w' w.heap) : Row w' b o vs := h.upd (M := fun _ => False) (Upd.of_heap e) (fun h => h)
theorem Row.ext {w w' : World} {b o : Nat} {vs : List Value} (h : Row w b o vs) (e : Ext w w') : Row w' b o vs := h.upd e (fun h => h)

theorem r_ix {s : St} {w : World} {ty : TypeId} {p : String} {af : Array Edge} {g : Option (Nat × Bool)} {d t : Nat} {x ix : Operand} {kk : IntKind} {i : Int} {bs : List UInt8} {j : Nat} (h : j < bs.length) (hu : P.underlying t = some .string)
    (hx : rd n s x = str bs) (hix : rd n s ix = .int kk i) (hi : i = (j : Int)) : (Oper.semAt r (rd n s) ⟨some d, .index t x ix, ty, p, af, g⟩).run P w = .ok (.value (.int .u8 (bs[j].toNat : Int))) w :=
  r_index (c := bs[j]) j hu hx hix hi (by simp [h])
end Go.Pd
