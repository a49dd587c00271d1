/-
  Pointers and slices against nil; empty literals; append of whatever slice.
-/
import Derived.Test.YtjijmehighoonaaDoorMap
set_option linter.unusedSimpArgs false
set_option linter.unnecessarySimpa false
set_option maxRecDepth 10000
set_option linter.unusedVariables false
namespace Go.Pd
variable {P : Program} {r : Option Nat} {n : Nat}

theorem run_equalP {t e : TypeId} {a : Option Addr} (hu : P.underlying t = some (.pointer e)) (w : World) : (Op.equal t (.pointer a) (.pointer none)).run P w = .ok a.isNone w := by
  have h9 : Op.equal t (.pointer a) (.pointer none) = Op.equalIn (9999 + 1) t (.pointer a) (.pointer none) := rfl
  rw [h9, Op.equalIn, sem_bind (run_underlying' hu w)]
  cases a <;> rfl

theorem run_equalS {t e : TypeId} {a : Option Addr} {m c : Nat} (hu : P.underlying t = some (.slice e)) (w : World) : (Op.equal t (.slice a m c) (.slice none 0 0)).run P w = .ok a.isNone w := by
  have h9 : Op.equal t (.slice a m c) (.slice none 0 0) = Op.equalIn (9999 + 1) t (.slice a m c) (.slice none 0 0) := rfl
  rw [h9, Op.equalIn, sem_bind (run_underlying' hu w)]
  cases a <;> rfl

section
variable {s : St} {w : World} {d : Nat} {ty : TypeId} {p : String} {af : Array Edge} {g : Option (Nat × Bool)}

theorem r_nil {bo : BinOp} {v : Value} {xt yt : TypeId} {x y : Operand} {b : Bool} (hb : bo = .eql ∨ bo = .neq) {u : Value} (hx : rd n s x = v) (hy : rd n s y = u) (hp : (∃ a, v = .pointer a) ∨ ∃ a m c, v = .slice a m c) (he : (Op.equal xt v u).run P w = .ok b w) :
    (Oper.semAt r (rd n s) ⟨some d, .binOp bo xt x y yt, ty, p, af, g⟩).run P w = .ok (.value (.bool (if bo = .eql then b else !b))) w := by
  rw [Oper.semAt_eq _ _ _ (fun c e => by cases e)]
  have h1 : (eqGuard bo xt x y v u).run P w = .ok () w := by
    rcases hb with rfl | rfl <;> rcases hp with ⟨a, rfl⟩ | ⟨a, m, c, rfl⟩ <;> rfl
  have h2 : (binOp bo xt v u).run P w = .ok (.bool (if bo = .eql then b else !b)) w := by
    rcases hb with rfl | rfl
    · have : binOp .eql xt v u = (do pure (Value.bool (← Op.equal xt v u)) : Sem Value) := by
        rcases hp with ⟨a, rfl⟩ | ⟨a, m, c, rfl⟩ <;> rfl
      rw [this, sem_bind he]
      rfl
    · have : binOp .neq xt v u = (do pure (Value.bool (!(← Op.equal xt v u))) : Sem Value) := by
        rcases hp with ⟨a, rfl⟩ | ⟨a, m, c, rfl⟩ <;> rfl
      rw [this, sem_bind he]
      rfl
  simp only [execOp, hx, hy]
  have h3 : (do eqGuard bo xt x y v u; binOp bo xt v u : Sem Value).run P w = .ok (.bool (if bo = .eql then b else !b)) w := by
    rw [sem_bind h1]; exact h2
  rw [sem_bind h3]
  rfl

theorem r_peq {xt yt e : TypeId} {x y : Operand} {a : Option Addr} (hx : rd n s x = .pointer a) (hy : rd n s y = .pointer none) (hu : P.underlying xt = some (.pointer e)) :
    (Oper.semAt r (rd n s) ⟨some d, .binOp .eql xt x y yt, ty, p, af, g⟩).run P w = .ok (.value (.bool a.isNone)) w := r_nil (.inl rfl) hx hy (.inl ⟨_, rfl⟩) (run_equalP hu w)
theorem r_pne {xt yt e : TypeId} {x y : Operand} {a : Option Addr} (hx : rd n s x = .pointer a) (hy : rd n s y = .pointer none) (hu : P.underlying xt = some (.pointer e)) :
    (Oper.semAt r (rd n s) ⟨some d, .binOp .neq xt x y yt, ty, p, af, g⟩).run P w = .ok (.value (.bool (!a.isNone))) w := r_nil (.inr rfl) hx hy (.inl ⟨_, rfl⟩) (run_equalP hu w)
theorem r_seq {xt yt e : TypeId} {x y : Operand} {a : Option Addr} {m c : Nat} (hx : rd n s x = .slice a m c) (hy : rd n s y = .slice none 0 0) (hu : P.underlying xt = some (.slice e)) :
    (Oper.semAt r (rd n s) ⟨some d, .binOp .eql xt x y yt, ty, p, af, g⟩).run P w = .ok (.value (.bool a.isNone)) w := r_nil (.inl rfl) hx hy (.inr ⟨_, _, _, rfl⟩) (run_equalS hu w)
theorem r_sne {xt yt e : TypeId} {x y : Operand} {a : Option Addr} {m c : Nat} (hx : rd n s x = .slice a m c) (hy : rd n s y = .slice none 0 0) (hu : P.underlying xt = some (.slice e)) :
    (Oper.semAt r (rd n s) ⟨some d, .binOp .neq xt x y yt, ty, p, af, g⟩).run P w = .ok (.value (.bool (!a.isNone))) w := r_nil (.inr rfl) hx hy (.inr ⟨_, _, _, rfl⟩) (run_equalS hu w)

variable {ops : Array Oper} {K : St → World → Prop} {X : List PanicEntry → St → World → Prop} {l : List Oper} {w0 : World} {M : Nat → Prop} {bl : List (Nat × Obj)}

theorem o_peq {xt yt e : TypeId} {x y : Operand} {a : Option Addr} (hw : Region.wanted ⟨some d, .binOp .eql xt x y yt, ty, p, af, g⟩ (yieldedE ops n s) = true) (hx : rd n s x = .pointer a) (hy : rd n s y = .pointer none) (hu : P.underlying xt = some (.pointer e))
    (hk : OpsL P r n ops K X l (s.set d (.bool a.isNone)) w) : OpsL P r n ops K X (⟨some d, .binOp .eql xt x y yt, ty, p, af, g⟩ :: l) s w := o_pur hw (fun w => r_peq hx hy hu) hk
theorem o_pne {xt yt e : TypeId} {x y : Operand} {a : Option Addr} (hw : Region.wanted ⟨some d, .binOp .neq xt x y yt, ty, p, af, g⟩ (yieldedE ops n s) = true) (hx : rd n s x = .pointer a) (hy : rd n s y = .pointer none) (hu : P.underlying xt = some (.pointer e))
    (hk : OpsL P r n ops K X l (s.set d (.bool (!a.isNone))) w) : OpsL P r n ops K X (⟨some d, .binOp .neq xt x y yt, ty, p, af, g⟩ :: l) s w := o_pur hw (fun w => r_pne hx hy hu) hk
theorem o_seq {xt yt e : TypeId} {x y : Operand} {a : Option Addr} {m c : Nat} (hw : Region.wanted ⟨some d, .binOp .eql xt x y yt, ty, p, af, g⟩ (yieldedE ops n s) = true) (hx : rd n s x = .slice a m c) (hy : rd n s y = .slice none 0 0) (hu : P.underlying xt = some (.slice e))
    (hk : OpsL P r n ops K X l (s.set d (.bool a.isNone)) w) : OpsL P r n ops K X (⟨some d, .binOp .eql xt x y yt, ty, p, af, g⟩ :: l) s w := o_pur hw (fun w => r_seq hx hy hu) hk
theorem o_sne {xt yt e : TypeId} {x y : Operand} {a : Option Addr} {m c : Nat} (hw : Region.wanted ⟨some d, .binOp .neq xt x y yt, ty, p, af, g⟩ (yieldedE ops n s) = true) (hx : rd n s x = .slice a m c) (hy : rd n s y = .slice none 0 0) (hu : P.underlying xt = some (.slice e))
    (hk : OpsL P r n ops K X l (s.set d (.bool (!a.isNone))) w) : OpsL P r n ops K X (⟨some d, .binOp .neq xt x y yt, ty, p, af, g⟩ :: l) s w := o_pur hw (fun w => r_sne hx hy hu) hk

/-- An empty literal. -/
theorem o_buildSlice0 {t e k : Nat} (hl : LH w0 M w bl) (hw : Region.wanted ⟨some d, .buildSlice t 0 #[], ty, p, af, g⟩ (yieldedE ops n s) = true) (hu : P.underlying t = some (.slice e)) (hs : sizeT P e = some k)
    (hk : ∀ b w', w0.heap.size ≤ b → LH w0 M w' ((b, .cells #[] e (0, 0)) :: bl) → OpsL P r n ops K X l (s.set d (.slice (some ⟨b, 0, none⟩) 0 0)) w') : OpsL P r n ops K X (⟨some d, .buildSlice t 0 #[], ty, p, af, g⟩ :: l) s w := by
  refine o_val (w' := { w with heap := w.heap.push (.cells #[] e) }) hw ?_ (hk w.heap.size _ hl.upd.size (hl.alloc _))
  rw [Oper.semAt_eq _ _ _ (fun c e => by cases e)]
  simp only [execOp]
  rw [sem_bind (a := .slice (some ⟨w.heap.size, 0, none⟩) 0 0) (w' := { w with heap := w.heap.push (.cells #[] e) })]
  · rfl
  · unfold Instr.buildSlice
    rw [sem_bind (run_underlying' hu w)]
    simp only
    rw [sem_bind (run_sizeT hs w)]
    simp [newRow, newObj, Instr.fill, bind, Sem.bind, Sem.run, pure]
    have e0 : Array.range 0 = #[] := by apply Array.ext'; simp
    rw [e0, Array.map_empty]

theorem Acc.empty (k : Nat) (E : TypeId) (b : Nat) : Acc (.slice (some ⟨b, 0, none⟩) 0 0) k E 0 [] [(b, .cells #[] E (0, 0))] :=
  ⟨by simp, .inr ⟨b, 0, #[], rfl, rfl, Nat.le_refl _, Nat.zero_le _, by simp, by simp⟩⟩

/-- Nothing appended. -/
theorem run_append0 {t ty' E k : TypeId} {base a : Option Addr} {m cap c : Nat} (ht : P.underlying t = some (.slice E)) (hs : sizeT P E = some k) (hm : m ≤ cap) (w : World) :
    (Builtin.append_ #[t, t] ty' #[.slice base m cap, .slice a 0 c]).run P w = .ok (.slice base m cap) w := by
  unfold Builtin.append_
  have h0 : (#[t, t] : Array TypeId)[0]? = some t := rfl
  have h1 : (#[t, t] : Array TypeId)[1]? = some t := rfl
  have h2 : (#[Value.slice base m cap, .slice a 0 c] : Array Value)[0]? = some (.slice base m cap) := rfl
  have h3 : (#[Value.slice base m cap, .slice a 0 c] : Array Value)[1]? = some (.slice a 0 c) := rfl
  simp only [h0, h1, h2, h3]
  rw [sem_bind (run_underlying' ht w)]
  simp only
  rw [sem_bind (run_sizeT hs w)]
  rw [sem_bind (run_underlying' ht w)]
  simp only
  rw [sem_bind (a := false) (w' := w) rfl]
  simp only [Bool.false_eq_true, if_false]
  rw [sem_bind (a := 0) (w' := w) rfl]
  have hfc : (Builtin.firstCells k 0 (.slice a 0 c)).run P w = .ok #[] w := by
    cases a with
    | none => rfl
    | some a => simp [Builtin.firstCells, loadCells, loadCellsFrom, pure, Sem.run]
  simp only [Nat.add_zero, if_pos hm, Bool.not_false, if_true]
  rw [sem_bind hfc]
  cases base with
  | none => rfl
  | some b => rfl

theorem o_appendS {t E k bytes m q : Nat} {x y : Operand} {v yv : Value} {xs us : List Value} {bl' acc : List (Nat × Obj)} (hl : LH w0 M w (bl' ++ acc)) (ha : Acc v k E m xs acc) (hu : Sl w yv k us) (hul : us.length = q * k) (hk0 : 0 < k) (h1 : us.all Value.oneCell' = true)
    (hb : (m + q) * bytes ≤ 140737488355328) (hm : m + q ≤ 9223372036854775807) (hw : Region.wanted ⟨some d, .call ⟨.builtin .append, #[x, y], #[t, t]⟩, ty, p, af, g⟩ (yieldedE ops n s) = true) (ht : P.underlying t = some (.slice E)) (hi : infoT P E = some (k, bytes, k)) (hs : sizeT P E = some k)
    (hx : rd n s x = v) (hy : rd n s y = yv)
    (hk : ∀ v' w' acc', LH w0 M w' (bl' ++ acc') → Acc v' k E (m + q) (xs ++ us) acc' → OpsL P r n ops K X l (s.set d v') w') : OpsL P r n ops K X (⟨some d, .call ⟨.builtin .append, #[x, y], #[t, t]⟩, ty, p, af, g⟩ :: l) s w := by
  by_cases hq : 0 < q
  · obtain ⟨b, o, c, rfl, -, hrow⟩ := hu.ne hul hk0 hq
    exact o_append hl ha hrow hul h1 hq hb hm hw ht hi hx hy hk
  · have hq0 : q = 0 := by omega
    subst hq0
    have hus : us = [] := List.eq_nil_of_length_eq_zero (by simpa using hul)
    subst hus
    obtain ⟨a, c, rfl, -⟩ := hu.shape hul hk0
    obtain ⟨base, cap, rfl⟩ := ha.shape
    have hcap : m ≤ cap := by
      rcases ha.2 with ⟨h, h2, -⟩ | ⟨b', cap', cur, h, -, h3, -⟩
      · omega
      · cases h; exact h3
    refine o_val (w' := w) hw ?_ (hk _ w acc hl (by rw [List.append_nil]; exact ha))
    rw [Oper.semAt_eq _ _ _ (fun c e => by cases e)]
    simp only [execOp, resolve, List.map_toArray, List.map_cons, List.map_nil, hx, hy]
    rw [sem_bind (w' := w) rfl]
    simp only [invoke, builtin]
    rw [sem_bind (run_append0 ht hs hcap w)]
    rfl
end
end Go.Pd
