/-
  The steps of a walk, with what is closed by itself left out.
-/
import Derived.Test.YtpmjolbnmoejdaaGreatDoorQLC
set_option linter.unusedSimpArgs false
set_option linter.unnecessarySimpa false
set_option maxRecDepth 10000
set_option linter.unusedVariables false
namespace Go.Pd
variable {P : Program} {r : Option Nat} {n : Nat}
section
variable {ops : Array Oper} {K : St → World → Prop} {X : List PanicEntry → St → World → Prop} {l : List Oper} {s : St} {w w0 : World} {M : Nat → Prop} {bl bl' : List (Nat × Obj)}
variable {d k : Nat} {ty : TypeId} {p : String} {af : Array Edge} {g : Option (Nat × Bool)}

theorem a_mov {x : Operand} {v : Value} (hk : OpsL P r n ops K X l (s.set k v) w) (hw : Region.wanted ⟨some k, .move x, ty, p, af, g⟩ (yieldedE ops n s) = true := by rfl) (hx : rd n s x = v := by conv => lhs; whnf) : OpsL P r n ops K X (⟨some k, .move x, ty, p, af, g⟩ :: l) s w := o_mov hw hx hk
theorem a_asg {x : Operand} {v : Value} (hk : OpsL P r n ops K X l (s.set k v) w) (hw : Region.wanted ⟨some k, .assign x, ty, p, af, g⟩ (yieldedE ops n s) = true := by rfl) (hx : rd n s x = v := by conv => lhs; whnf) : OpsL P r n ops K X (⟨some k, .assign x, ty, p, af, g⟩ :: l) s w := o_asg hw hx hk
theorem a_binN {bo : BinOp} {xt yt : TypeId} {x y : Operand} {a b c : Int} (hk : OpsL P r n ops K X l (s.set k (.int .i64 c)) w) (hw : Region.wanted ⟨some k, .binOp bo xt x y yt, ty, p, af, g⟩ (yieldedE ops n s) = true := by rfl) (hx : rd n s x = .int .i64 a := by rfl) (hy : rd n s y = .int .i64 b := by rfl) (hv : binN bo a b = some c := by rfl)
    (hc : -9223372036854775808 ≤ c ∧ c ≤ 9223372036854775807 := by omega) : OpsL P r n ops K X (⟨some k, .binOp bo xt x y yt, ty, p, af, g⟩ :: l) s w := o_binN hw hx hy hv hc hk
theorem a_notb {xt : TypeId} {x : Operand} {b : Bool} (hk : OpsL P r n ops K X l (s.set k (.bool (!b))) w) (hw : Region.wanted ⟨some k, .unOp .not xt x, ty, p, af, g⟩ (yieldedE ops n s) = true := by rfl) (hx : rd n s x = .bool b := by rfl) : OpsL P r n ops K X (⟨some k, .unOp .not xt x, ty, p, af, g⟩ :: l) s w := o_notb hw hx hk
theorem a_nilc {x : Operand} {a : Addr} (hk : OpsL P r n ops K X l (s.set k (.pointer (some a))) w) (hw : Region.wanted ⟨some k, .nilCheck x, ty, p, af, g⟩ (yieldedE ops n s) = true := by rfl) (hx : rd n s x = .pointer (some a) := by rfl) : OpsL P r n ops K X (⟨some k, .nilCheck x, ty, p, af, g⟩ :: l) s w := o_nilc hw hx hk
theorem a_fa {st f off b o o' : Nat} {x : Operand} (hk : OpsL P r n ops K X l (s.set d (.pointer (some ⟨b, o', none⟩))) w) (hw : Region.wanted ⟨some d, .fieldAddr st x f, ty, p, af, g⟩ (yieldedE ops n s) = true := by rfl) (hx : rd n s x = .pointer (some ⟨b, o, none⟩) := by rfl) (hf : fieldT P st f = some off := by conv => lhs; whnf; arg 1; whnf)
    (ho : o + off = o' := by first | (conv => lhs; simp only [Nat.reduceAdd, Nat.zero_add, Nat.add_zero]) | rfl) : OpsL P r n ops K X (⟨some d, .fieldAddr st x f, ty, p, af, g⟩ :: l) s w := o_fa2 hw hx hf ho hk
theorem a_ext {x : Operand} {i : Nat} {vs : Array Value} {v : Value} (hk : OpsL P r n ops K X l (s.set k v) w) (hw : Region.wanted ⟨some k, .extract x i, ty, p, af, g⟩ (yieldedE ops n s) = true := by rfl) (hx : rd n s x = .tuple vs := by rfl) (hv : vs[i]? = some v := by conv => lhs; whnf) : OpsL P r n ops K X (⟨some k, .extract x i, ty, p, af, g⟩ :: l) s w := o_ext hw hx hv hk
theorem a_lenv {at_ : Array TypeId} {x : Operand} {e m c : Nat} {a : Option Addr} (hk : OpsL P r n ops K X l (s.set d (.int .i64 (m : Int))) w) (hw : Region.wanted ⟨some d, .call ⟨.builtin .len, #[x], at_⟩, ty, p, af, g⟩ (yieldedE ops n s) = true := by rfl) (hu : (at_[0]?).bind P.underlying = some (.slice e) := by rfl) (hx : rd n s x = .slice a m c := by rfl) : OpsL P r n ops K X (⟨some d, .call ⟨.builtin .len, #[x], at_⟩, ty, p, af, g⟩ :: l) s w := o_lenv hw hu hx hk
theorem a_lens {at_ : Array TypeId} {x : Operand} {a : List UInt8} (hk : OpsL P r n ops K X l (s.set d (.int .i64 (a.length : Int))) w) (hw : Region.wanted ⟨some d, .call ⟨.builtin .len, #[x], at_⟩, ty, p, af, g⟩ (yieldedE ops n s) = true := by rfl) (hu : (at_[0]?).bind P.underlying = some .string := by rfl) (hx : rd n s x = str a := by rfl) : OpsL P r n ops K X (⟨some d, .call ⟨.builtin .len, #[x], at_⟩, ty, p, af, g⟩ :: l) s w := o_lens hw hu hx hk
theorem a_pick_t {c a b : Operand} {v : Value} (hk : OpsL P r n ops K X l (s.set k v) w) (hw : Region.wanted ⟨some k, .pick c a b, ty, p, af, g⟩ (yieldedE ops n s) = true := by rfl) (hc : rd n s c = .bool true := by rfl) (ha : rd n s a = v := by conv => lhs; whnf) : OpsL P r n ops K X (⟨some k, .pick c a b, ty, p, af, g⟩ :: l) s w := o_pick_t hw hc ha hk
theorem a_pick_f {c a b : Operand} {v : Value} (hk : OpsL P r n ops K X l (s.set k v) w) (hw : Region.wanted ⟨some k, .pick c a b, ty, p, af, g⟩ (yieldedE ops n s) = true := by rfl) (hc : rd n s c = .bool false := by rfl) (hb : rd n s b = v := by conv => lhs; whnf) : OpsL P r n ops K X (⟨some k, .pick c a b, ty, p, af, g⟩ :: l) s w := o_pick_f hw hc hb hk
theorem a_not {op : Op} (hk : OpsL P r n ops K X l (s.set k undef) w) (hw : Region.wanted ⟨some k, op, ty, p, af, g⟩ (yieldedE ops n s) = false := by rfl) : OpsL P r n ops K X (⟨some k, op, ty, p, af, g⟩ :: l) s w := o_not hw hk
theorem a_bin {bo : BinOp} {xt yt : TypeId} {x y : Operand} {kk : IntKind} {a b : Int} {q : Prop} [Decidable q] (ht : q → OpsL P r n ops K X l (s.set k (.bool true)) w) (hf : ¬ q → OpsL P r n ops K X l (s.set k (.bool false)) w) (hw : Region.wanted ⟨some k, .binOp bo xt x y yt, ty, p, af, g⟩ (yieldedE ops n s) = true := by rfl)
    (hx : rd n s x = .int kk a := by rfl) (hy : rd n s y = .int kk b := by rfl) (hv : binC bo a b = some (decide q) := by rfl) : OpsL P r n ops K X (⟨some k, .binOp bo xt x y yt, ty, p, af, g⟩ :: l) s w := o_binT hw hx hy hv ht hf
inductive CellIn (b o : Nat) (v : Value) : List (Nat × Obj) → Prop
  | here {cs : Array Value} {T : TypeId} {fz : Nat × Nat} {l : List (Nat × Obj)} : cs[o]? = some v → CellIn b o v ((b, .cells cs T fz) :: l)
  | there {q : Nat × Obj} {l : List (Nat × Obj)} : CellIn b o v l → CellIn b o v (q :: l)

theorem CellIn.mem {b o : Nat} {v : Value} {l : List (Nat × Obj)} (h : CellIn b o v l) : ∃ cs T fz, (b, Obj.cells cs T fz) ∈ l ∧ cs[o]? = some v := by
  induction h with
  | @here cs T fz l h => exact ⟨cs, T, fz, List.mem_cons_self, h⟩
  | there _ ih => obtain ⟨cs, T, fz, h1, h2⟩ := ih; exact ⟨cs, T, fz, List.mem_cons_of_mem _ h1, h2⟩

theorem LH.cellIn (hl : LH w0 M w bl) {b o : Nat} {v : Value} (h : CellIn b o v bl) : w.cell? ⟨b, o, none⟩ = some v := by
  obtain ⟨cs, T, fz, h1, h2⟩ := h.mem
  exact cell_of_block (hl.own _ h1) h2

theorem a_ld {t : TypeId} {x : Operand} {b o : Nat} {v : Value} (hl : LH w0 M w bl) (hk : OpsL P r n ops K X l (s.set d v) w) (hw : Region.wanted ⟨some d, .load t x, ty, p, af, g⟩ (yieldedE ops n s) = true := by rfl) (hA : aggT P t = some false := by rfl) (hx : rd n s x = .pointer (some ⟨b, o, none⟩) := by rfl)
    (hc : CellIn b o v bl := by repeat (first | exact CellIn.here rfl | apply CellIn.there)) : OpsL P r n ops K X (⟨some d, .load t x, ty, p, af, g⟩ :: l) s w := o_load hw hA hx (hl.cellIn hc) hk

theorem a_st {t : TypeId} {a x : Operand} {b o : Nat} {v : Value} (hl : LH w0 M w bl) (hk : ∀ w', LH w0 M w' bl' → OpsL P r n ops K X l s w') (hw : Region.wanted ⟨none, .store t a x, ty, p, af, g⟩ (yieldedE ops n s) = true := by rfl) (ha : rd n s a = .pointer (some ⟨b, o, none⟩) := by rfl)
    (hx : rd n s x = v := by conv => lhs; whnf) (hv : Cell1 v := by first | exact ⟨rfl, rfl⟩ | exact cell1_str _) (hs : sizeT P t = some 1 := by rfl)
    (hp : Put b o v bl bl' := by repeat (first | exact Put.here rfl (by conv => lhs; simp only [List.set_cons_zero, List.set_cons_succ, Nat.reduceAdd, Nat.zero_add]) | apply Put.there)) : OpsL P r n ops K X (⟨none, .store t a x, ty, p, af, g⟩ :: l) s w := o_put1 hl hw ha hx hv hs hp hk

theorem a_row {t : TypeId} {x : Operand} {b o ad : Nat} {v : Value} {vs : List Value} (h : Row w b o vs) (hk : OpsL P r n ops K X l (s.set d v) w) (hw : Region.wanted ⟨some d, .load t x, ty, p, af, g⟩ (yieldedE ops n s) = true := by rfl) (hA : aggT P t = some false := by rfl) (hx : rd n s x = .pointer (some ⟨b, ad, none⟩) := by rfl)
    (hj : ∃ j, ad = o + j ∧ vs[j]? = some v := by first | exact ⟨0, rfl, rfl⟩ | exact ⟨1, rfl, rfl⟩ | exact ⟨2, rfl, rfl⟩ | exact ⟨3, rfl, rfl⟩ | exact ⟨4, rfl, rfl⟩ | exact ⟨5, rfl, rfl⟩ | exact ⟨6, rfl, rfl⟩ | exact ⟨7, rfl, rfl⟩ | exact ⟨8, rfl, rfl⟩) : OpsL P r n ops K X (⟨some d, .load t x, ty, p, af, g⟩ :: l) s w := by
  obtain ⟨j, rfl, h2⟩ := hj
  exact o_load hw hA hx (h j v h2) hk

theorem a_all {t : TypeId} {x : Operand} {b o : Nat} {vs : List Value} (h : Row w b o vs) (hk : OpsL P r n ops K X l (s.set d (.agg vs.toArray)) w) (hw : Region.wanted ⟨some d, .load t x, ty, p, af, g⟩ (yieldedE ops n s) = true := by rfl) (hA : aggT P t = some true := by rfl) (hs : sizeT P t = some vs.length := by rfl)
    (hx : rd n s x = .pointer (some ⟨b, o, none⟩) := by rfl) : OpsL P r n ops K X (⟨some d, .load t x, ty, p, af, g⟩ :: l) s w := o_loadN hw hA hs hx h hk

theorem a_idx {t e c m cc : Nat} {x ix : Operand} {kk : IntKind} {i : Int} {a : Option Addr} {b o : Nat} (j : Nat) (ha : a = some ⟨b, o, none⟩) (hk : OpsL P r n ops K X l (s.set d (.pointer (some ⟨b, o + j * c, none⟩))) w) (hw : Region.wanted ⟨some d, .indexAddr t x ix, ty, p, af, g⟩ (yieldedE ops n s) = true := by rfl)
    (hu : P.underlying t = some (.slice e) := by rfl) (hs : sizeT P e = some c := by rfl) (hx : rd n s x = .slice a m cc := by rfl) (hix : rd n s ix = .int kk i := by rfl) (hj : j < m := by omega) (hi : i = (j : Int) := by omega) : OpsL P r n ops K X (⟨some d, .indexAddr t x ix, ty, p, af, g⟩ :: l) s w := o_indexAddr j ha hj hw hu hs hx hix hi hk

theorem a_fn {f : FuncId} {xs : Array Operand} {ats : Array TypeId} {args : Array Value} {R : Value → World → Prop} (hc : Calls P f args w (fun e w' => ∃ v, e = .returned v ∧ R v w')) (hk : ∀ v w', R v w' → OpsL P r n ops K X l (s.set k v) w') (hw : Region.wanted ⟨some k, .call ⟨.value (.func f), xs, ats⟩, ty, p, af, g⟩ (yieldedE ops n s) = true := by rfl)
    (hen : ∀ w, (callFunc f args).run P w = .ok (.enter f args) w := by intro _; rfl) (hargs : xs.toList.map (rd n s) = args.toList := by rfl) : OpsL P r n ops K X (⟨some k, .call ⟨.value (.func f), xs, ats⟩, ty, p, af, g⟩ :: l) s w := o_fn hc hw hen hargs hk

theorem a_fc {f : FuncId} {x : Operand} {xs : Array Operand} {ats : Array TypeId} {R : Value → World → Prop} (args ca all : Array Value) (hall : args ++ ca = all) (hc : Calls P f all w (fun e w' => ∃ v, e = .returned v ∧ R v w')) (hk : ∀ v w', R v w' → OpsL P r n ops K X l (s.set d v) w') (hw : Region.wanted ⟨some d, .call ⟨.value x, xs, ats⟩, ty, p, af, g⟩ (yieldedE ops n s) = true := by rfl)
    (hx : rd n s x = .func (.func f) #[] ca := by rfl) (hen : ∀ w, (callFunc f all).run P w = .ok (.enter f all) w := by intro _; rfl) (hargs : xs.toList.map (rd n s) = args.toList := by rfl) : OpsL P r n ops K X (⟨some d, .call ⟨.value x, xs, ats⟩, ty, p, af, g⟩ :: l) s w := by
  subst hall
  exact o_callv hw hx hargs (callV_func hen hc) hk
end

/-! ### Drawn regions: heads -/
theorem opsQ_last {ops : Array Oper} {E : List Nat} {C C2 : World → Prop} {K K' : St → Prop} (hk : ∀ s, K s → K' s) : ∀ {l : List Nat} {s : St}, OpsQ P r n ops E C C2 K l s → OpsQ P r n ops E C C2 K' l s
  | [], s, h => hk s h
  | i :: l, s, h => by
    simp only [OpsQ] at h ⊢
    cases ho : ops[i]? with
    | none => rw [ho] at h; exact h.elim
    | some o =>
      simp only [ho] at h ⊢
      split
      · rename_i hw
        rw [if_pos hw] at h
        obtain ⟨v, h1, h2⟩ := h
        exact ⟨v, h1, opsQ_last hk h2⟩
      · rename_i hw
        rw [if_neg hw] at h
        exact opsQ_last hk h

section
variable {ops : Array Oper} {E : List Nat} {C C2 : World → Prop} {K : St → Prop} {i : Nat} {l : List Nat} {s : St} {k : Nat} {ty : TypeId} {p : String} {af : Array Edge} {g : Option (Nat × Bool)}

theorem q_mov {x : Operand} {v : Value} (hk : OpsQ P r n ops E C C2 K l (s.set k v)) (ho : ops[i]? = some ⟨some k, .move x, ty, p, af, g⟩ := by rfl) (hw : Region.wanted ⟨some k, .move x, ty, p, af, g⟩ (yieldedE ops n s) = true := by rfl) (hx : rd n s x = v := by conv => lhs; whnf) : OpsQ P r n ops E C C2 K (i :: l) s := q_pur ho hw rfl (fun _ => r_mov hx) hk
theorem q_asg {x : Operand} {v : Value} (hk : OpsQ P r n ops E C C2 K l (s.set k v)) (ho : ops[i]? = some ⟨some k, .assign x, ty, p, af, g⟩ := by rfl) (hw : Region.wanted ⟨some k, .assign x, ty, p, af, g⟩ (yieldedE ops n s) = true := by rfl) (hx : rd n s x = v := by conv => lhs; whnf) : OpsQ P r n ops E C C2 K (i :: l) s := q_pur ho hw rfl (fun _ => r_asg hx) hk
theorem q_fa {st f off b o o' : Nat} {x : Operand} (hk : OpsQ P r n ops E C C2 K l (s.set k (.pointer (some ⟨b, o', none⟩)))) (ho : ops[i]? = some ⟨some k, .fieldAddr st x f, ty, p, af, g⟩ := by rfl) (hw : Region.wanted ⟨some k, .fieldAddr st x f, ty, p, af, g⟩ (yieldedE ops n s) = true := by rfl) (hx : rd n s x = .pointer (some ⟨b, o, none⟩) := by rfl) (hf : fieldT P st f = some off := by conv => lhs; whnf; arg 1; whnf)
    (hoo : o + off = o' := by first | (conv => lhs; simp only [Nat.reduceAdd, Nat.zero_add, Nat.add_zero]) | rfl) : OpsQ P r n ops E C C2 K (i :: l) s := q_pur ho hw rfl (fun _ => r_fa2 hx hf hoo) hk
theorem q_binN {bo : BinOp} {xt yt : TypeId} {x y : Operand} {a b c : Int} (hk : OpsQ P r n ops E C C2 K l (s.set k (.int .i64 c))) (ho : ops[i]? = some ⟨some k, .binOp bo xt x y yt, ty, p, af, g⟩ := by rfl) (hw : Region.wanted ⟨some k, .binOp bo xt x y yt, ty, p, af, g⟩ (yieldedE ops n s) = true := by rfl) (hx : rd n s x = .int .i64 a := by rfl) (hy : rd n s y = .int .i64 b := by rfl) (hv : binN bo a b = some c := by rfl)
    (hc : -9223372036854775808 ≤ c ∧ c ≤ 9223372036854775807 := by omega) : OpsQ P r n ops E C C2 K (i :: l) s := q_pur ho hw rfl (fun _ => r_binN hx hy hv hc) hk
theorem q_notb {xt : TypeId} {x : Operand} {b : Bool} (hk : OpsQ P r n ops E C C2 K l (s.set k (.bool (!b)))) (ho : ops[i]? = some ⟨some k, .unOp .not xt x, ty, p, af, g⟩ := by rfl) (hw : Region.wanted ⟨some k, .unOp .not xt x, ty, p, af, g⟩ (yieldedE ops n s) = true := by rfl) (hx : rd n s x = .bool b := by rfl) : OpsQ P r n ops E C C2 K (i :: l) s := q_pur ho hw rfl (fun _ => r_notb hx) hk
theorem q_pick_t {c a b : Operand} {v : Value} (hk : OpsQ P r n ops E C C2 K l (s.set k v)) (ho : ops[i]? = some ⟨some k, .pick c a b, ty, p, af, g⟩ := by rfl) (hw : Region.wanted ⟨some k, .pick c a b, ty, p, af, g⟩ (yieldedE ops n s) = true := by rfl) (hc : rd n s c = .bool true := by rfl) (ha : rd n s a = v := by conv => lhs; whnf) : OpsQ P r n ops E C C2 K (i :: l) s := q_pur ho hw rfl (fun _ => r_pick_t hc ha) hk
theorem q_pick_f {c a b : Operand} {v : Value} (hk : OpsQ P r n ops E C C2 K l (s.set k v)) (ho : ops[i]? = some ⟨some k, .pick c a b, ty, p, af, g⟩ := by rfl) (hw : Region.wanted ⟨some k, .pick c a b, ty, p, af, g⟩ (yieldedE ops n s) = true := by rfl) (hc : rd n s c = .bool false := by rfl) (hb : rd n s b = v := by conv => lhs; whnf) : OpsQ P r n ops E C C2 K (i :: l) s := q_pur ho hw rfl (fun _ => r_pick_f hc hb) hk
theorem q_nilc {x : Operand} {a : Addr} (hk : OpsQ P r n ops E C C2 K l (s.set k (.pointer (some a)))) (ho : ops[i]? = some ⟨some k, .nilCheck x, ty, p, af, g⟩ := by rfl) (hw : Region.wanted ⟨some k, .nilCheck x, ty, p, af, g⟩ (yieldedE ops n s) = true := by rfl) (hx : rd n s x = .pointer (some a) := by rfl) : OpsQ P r n ops E C C2 K (i :: l) s := q_pur ho hw rfl (fun _ => r_nilc hx) hk
theorem q_skip {op : Op} (hk : OpsQ P r n ops E C C2 K l (s.set k undef)) (ho : ops[i]? = some ⟨some k, op, ty, p, af, g⟩ := by rfl) (hw : Region.wanted ⟨some k, op, ty, p, af, g⟩ (yieldedE ops n s) = false := by rfl) : OpsQ P r n ops E C C2 K (i :: l) s := q_not ho hw hk
theorem q_lens {at_ : Array TypeId} {x : Operand} {a : List UInt8} (hk : OpsQ P r n ops E C C2 K l (s.set k (.int .i64 (a.length : Int)))) (ho : ops[i]? = some ⟨some k, .call ⟨.builtin .len, #[x], at_⟩, ty, p, af, g⟩ := by rfl) (hw : Region.wanted ⟨some k, .call ⟨.builtin .len, #[x], at_⟩, ty, p, af, g⟩ (yieldedE ops n s) = true := by rfl) (hE : E.contains i = false := by rfl) (hu : (at_[0]?).bind P.underlying = some .string := by rfl) (hx : rd n s x = str a := by rfl) : OpsQ P r n ops E C C2 K (i :: l) s := q_val ho hw rfl hE (fun w hw => r_lens hu hx) hk
theorem q_lenv {at_ : Array TypeId} {x : Operand} {e m c : Nat} {a : Option Addr} (hk : OpsQ P r n ops E C C2 K l (s.set k (.int .i64 (m : Int)))) (ho : ops[i]? = some ⟨some k, .call ⟨.builtin .len, #[x], at_⟩, ty, p, af, g⟩ := by rfl) (hw : Region.wanted ⟨some k, .call ⟨.builtin .len, #[x], at_⟩, ty, p, af, g⟩ (yieldedE ops n s) = true := by rfl) (hE : E.contains i = false := by rfl) (hu : (at_[0]?).bind P.underlying = some (.slice e) := by rfl) (hx : rd n s x = .slice a m c := by rfl) : OpsQ P r n ops E C C2 K (i :: l) s := q_val ho hw rfl hE (fun w hw => r_lenv hu hx) hk
theorem q_bin {bo : BinOp} {xt yt : TypeId} {x y : Operand} {kk : IntKind} {a b : Int} {q : Prop} [Decidable q] (ht : q → OpsQ P r n ops E C C2 K l (s.set k (.bool true))) (hf : ¬ q → OpsQ P r n ops E C C2 K l (s.set k (.bool false))) (ho : ops[i]? = some ⟨some k, .binOp bo xt x y yt, ty, p, af, g⟩ := by rfl) (hw : Region.wanted ⟨some k, .binOp bo xt x y yt, ty, p, af, g⟩ (yieldedE ops n s) = true := by rfl)
    (hx : rd n s x = .int kk a := by rfl) (hy : rd n s y = .int kk b := by rfl) (hv : binC bo a b = some (decide q) := by rfl) : OpsQ P r n ops E C C2 K (i :: l) s := q_binT ho hw hx hy hv ht hf
theorem q_row {t : TypeId} {x : Operand} {b o ad : Nat} {v : Value} {vs : List Value} (h : ∀ w, C w → Row w b o vs) (hk : OpsQ P r n ops E C C2 K l (s.set k v)) (ho : ops[i]? = some ⟨some k, .load t x, ty, p, af, g⟩ := by rfl) (hw : Region.wanted ⟨some k, .load t x, ty, p, af, g⟩ (yieldedE ops n s) = true := by rfl) (hE : E.contains i = false := by rfl) (hA : aggT P t = some false := by rfl) (hx : rd n s x = .pointer (some ⟨b, ad, none⟩) := by rfl)
    (hj : ∃ j, ad = o + j ∧ vs[j]? = some v := by first | exact ⟨0, rfl, rfl⟩ | exact ⟨1, rfl, rfl⟩ | exact ⟨2, rfl, rfl⟩ | exact ⟨3, rfl, rfl⟩ | exact ⟨4, rfl, rfl⟩ | exact ⟨5, rfl, rfl⟩ | exact ⟨6, rfl, rfl⟩ | exact ⟨7, rfl, rfl⟩ | exact ⟨8, rfl, rfl⟩) : OpsQ P r n ops E C C2 K (i :: l) s := by
  obtain ⟨j, rfl, h2⟩ := hj
  exact q_val ho hw rfl hE (fun w hw => r_load hA hx (h w hw j v h2)) hk
theorem q_all {t : TypeId} {x : Operand} {b o : Nat} {vs : List Value} (h : ∀ w, C w → Row w b o vs) (hk : OpsQ P r n ops E C C2 K l (s.set k (.agg vs.toArray))) (ho : ops[i]? = some ⟨some k, .load t x, ty, p, af, g⟩ := by rfl) (hw : Region.wanted ⟨some k, .load t x, ty, p, af, g⟩ (yieldedE ops n s) = true := by rfl) (hE : E.contains i = false := by rfl) (hA : aggT P t = some true := by rfl) (hs : sizeT P t = some vs.length := by rfl) (hx : rd n s x = .pointer (some ⟨b, o, none⟩) := by rfl) :
    OpsQ P r n ops E C C2 K (i :: l) s := q_val ho hw rfl hE (fun w hw => r_loadN hA hs hx (h w hw)) hk
theorem q_idx {t e c m cc : Nat} {x ix : Operand} {kk : IntKind} {z : Int} {a : Option Addr} {b o : Nat} (j : Nat) (ha : a = some ⟨b, o, none⟩) (hk : OpsQ P r n ops E C C2 K l (s.set k (.pointer (some ⟨b, o + j * c, none⟩)))) (ho : ops[i]? = some ⟨some k, .indexAddr t x ix, ty, p, af, g⟩ := by rfl) (hw : Region.wanted ⟨some k, .indexAddr t x ix, ty, p, af, g⟩ (yieldedE ops n s) = true := by rfl)
    (hu : P.underlying t = some (.slice e) := by rfl) (hs : sizeT P e = some c := by rfl) (hx : rd n s x = .slice a m cc := by rfl) (hix : rd n s ix = .int kk z := by rfl) (hj : j < m := by omega) (hi : z = (j : Int) := by omega) : OpsQ P r n ops E C C2 K (i :: l) s := q_pur ho hw rfl (fun _ => r_indexAddr j ha hj hu hs hx hix hi) hk

theorem q_fn {w0 : World} {f : FuncId} {xs : Array Operand} {ats : Array TypeId} {args : Array Value} {v : Value} (hc : ∀ w, Ext w0 w → Calls P f args w (fun e w' => ∃ x, e = .returned x ∧ x = v ∧ Ext w w')) (hk : OpsQ P r n ops E (fun w => Ext w0 w) C2 K l (s.set k v)) (ho : ops[i]? = some ⟨some k, .call ⟨.value (.func f), xs, ats⟩, ty, p, af, g⟩ := by rfl)
    (hw : Region.wanted ⟨some k, .call ⟨.value (.func f), xs, ats⟩, ty, p, af, g⟩ (yieldedE ops n s) = true := by rfl) (hE : E.contains i = false := by rfl) (hen : ∀ w, (callFunc f args).run P w = .ok (.enter f args) w := by intro _; rfl) (hargs : xs.toList.map (rd n s) = args.toList := by rfl) : OpsQ P r n ops E (fun w => Ext w0 w) C2 K (i :: l) s :=
  q_call (v := v) (R := fun u w' => u = v ∧ Ext w0 w') ho hw rfl hE (fun w => run_callOp hargs (hen w)) (fun w hC => (hc w hC).mono fun e w' ⟨x, h1, h2, h3⟩ => ⟨x, h1, h2, Ext.trans hC h3⟩) (fun _ _ _ _ h => h) hk

theorem wk_quiet {id : Nat} {ol : List Oper} {K : St → World → Prop} {Q : Ex} {s : St} {w : World} (H : List Nat) (h : OpsQ P r n ol.toArray [] (fun w' => Ext w w') (fun _ => True) (fun sT => ∀ w', Ext w w' → K sT w') H s)
    (hX : ∀ c s s' w, Q (.panic c) s w → Q (.panic c) s' w := by intro _ _ _ _ h; first | exact h | (simp only [BlockK, NoGoto, RetQ] at h)) (hm : P.follows .mixedOrders = true := by rfl) (hchk : regOk ol.toArray H [] [] = true := by kernel_rfl) : WK P r n (.region id ol.toArray true) K Q s w :=
  wk_draw H [] [] (fun w' => Ext w w') (fun _ => True) hm hchk hX (fun _ h => Upd.of_heap h) (fun _ _ => trivial) (opsQ_last (fun s h w' hw => ops_nil (h w' hw)) h)
end

/-! ### Drawn regions: stages -/
section
variable {ops : Array Oper} {T : List Nat} {C : Nat → World → Prop} {K : St → Prop} {i : Nat} {l : List Nat} {s : St} {k : Nat} {ty : TypeId} {p : String} {af : Array Edge} {g : Option (Nat × Bool)}

end
end Go.Pd

/-
  Further steps: calls of closures within drawn regions.
-/
set_option linter.unusedSimpArgs false
set_option linter.unnecessarySimpa false
set_option maxRecDepth 10000
set_option linter.unusedVariables false
namespace Go.Pd
variable {P : Program} {r : Option Nat} {n : Nat}
end Go.Pd
namespace Go.Pd
/-! ### Rounds over own blocks -/
theorem LH.rb {w0 w : World} {M : Nat → Prop} {l : List (Nat × Obj)} (h : LH w0 M w l) : LH w (fun b => b ∈ l.map (·.1)) w l := h.rebase (.refl _ _)
theorem LH.bk {w0 w w2 : World} {M : Nat → Prop} {l l2 : List (Nat × Obj)} (h : LH w0 M w l) (h2 : LH w (fun b => b ∈ l.map (·.1)) w2 l2) : LH w0 M w2 l2 := h.back (.refl _ _) h2
/-! ### Writing among elements laid one behind the other -/
theorem putL_app : ∀ (us a l : List Value) (o : Nat), putL (a ++ l) (a.length + o) us = a ++ putL l o us
  | [], a, l, o => rfl
  | u :: us, a, l, o => by
    have h : (a ++ l).set (a.length + o) u = a ++ l.set o u := by rw [List.set_append_right _ _ (by omega)]; congr 2; omega
    simp only [putL, h, Nat.add_assoc]
    exact putL_app us a (l.set o u) (o + 1)
theorem putL_front (us x l : List Value) (h : us.length = x.length) : putL (x ++ l) 0 us = us ++ l := by
  apply List.ext_getElem?
  intro j
  rw [putL_get us (x ++ l) 0 j (by simp; omega)]
  by_cases hj : j < us.length
  · rw [if_pos ⟨by omega, by omega⟩, List.getElem?_append_left hj]; rfl
  · rw [if_neg (by omega), List.getElem?_append_right (by omega), List.getElem?_append_right (by omega), h]
theorem putL_flat {α : Type} {f : α → List Value} {c : Nat} (hf : ∀ t, (f t).length = c) (x : α) (junk : List Value) : ∀ (l : List α) (i : Nat), i < l.length → putL (l.flatMap f ++ junk) (i * c) (f x) = (l.set i x).flatMap f ++ junk
  | [], i, h => by simp at h
  | a :: l, 0, h => by
    simp only [Nat.zero_mul, List.flatMap_cons, List.set_cons_zero, List.append_assoc]
    exact putL_front _ _ _ (by rw [hf, hf])
  | a :: l, i + 1, h => by
    simp only [List.flatMap_cons, List.set_cons_succ, List.append_assoc]
    have h1 := putL_app (f x) (f a) (l.flatMap f ++ junk) (i * c)
    rw [hf] at h1
    rw [show (i + 1) * c = c + i * c from by rw [Nat.add_mul]; omega, h1, putL_flat hf x junk l i (by simpa using h)]
end Go.Pd

/-
  Drawn regions whose last operation comes after all others: the region without it, then the operation.
-/
set_option linter.unusedSimpArgs false
set_option linter.unnecessarySimpa false
set_option maxRecDepth 10000
set_option linter.unusedVariables false
namespace Go.Pd
variable {P : Program} {r : Option Nat} {n : Nat}
section
variable {ops : Array Oper} {o : Oper} {K : St → World → Prop} {X : List PanicEntry → St → World → Prop}

def reachGo (t : Nat) : List Oper → Nat → Nat → Nat
  | [], _, m => m
  | o :: l, k, m => reachGo t l (k + 1) (if o.after.any (fun e => Region.binds .any e && (e.on == t || m.testBit e.on)) then m ||| 2 ^ k else m)
def reachB (ops : Array Oper) (i t : Nat) : Bool := (reachGo t ops.toList 0 0).testBit i

theorem reachGo_anc {ops : Array Oper} {t : Nat} : ∀ (l : List Oper) (k m : Nat), (∀ j, l[j]? = ops[k + j]?) → (∀ i, m.testBit i = true → ∃ f, anc ops f i t = true) → ∀ i, (reachGo t l k m).testBit i = true → ∃ f, anc ops f i t = true
  | [], _, _, _, hm, i, h => hm i h
  | o :: l, k, m, hl, hm, i, h => by
    simp only [reachGo] at h
    refine reachGo_anc l (k + 1) _ (fun j => ?_) (fun i hi => ?_) i h
    · have := hl (j + 1)
      rw [show k + 1 + j = k + (j + 1) from by omega]
      simpa using this
    · split at hi
      · rename_i ha
        rw [Nat.testBit_or, Bool.or_eq_true] at hi
        rcases hi with hi | hi
        · exact hm i hi
        · rw [Nat.testBit_two_pow, decide_eq_true_eq] at hi
          subst hi
          have ho : ops[k]? = some o := by have := hl 0; simpa using this.symm
          simp only [Array.any_eq_true, Bool.and_eq_true, Bool.or_eq_true, beq_iff_eq] at ha
          obtain ⟨q, hq, hb, h2⟩ := ha
          rcases h2 with h2 | h2
          · refine ⟨1, ?_⟩
            simp only [anc, ho, Option.map_some, Option.getD_some, Array.any_eq_true, Bool.and_eq_true, Bool.or_eq_true, beq_iff_eq]
            exact ⟨q, hq, hb, .inl h2⟩
          · obtain ⟨f, hf⟩ := hm _ h2
            refine ⟨f + 1, ?_⟩
            simp only [anc, ho, Option.map_some, Option.getD_some, Array.any_eq_true, Bool.and_eq_true, Bool.or_eq_true, beq_iff_eq]
            exact ⟨q, hq, hb, .inr hf⟩
      · exact hm i hi

theorem reach_listed {ops : Array Oper} {listed : Array Bool} (dc : ∀ i o, listed.getD i false = true → ops[i]? = some o → ∀ e ∈ o.after, Region.binds .any e = true → listed.getD e.on false = true) (i j : Nat) (h : reachB ops i j = true)
    (hi : ∀ o, ops[i]? = some o → ∀ e ∈ o.after, Region.binds .any e = true → listed.getD e.on false = true) : listed.getD j false = true := by
  obtain ⟨f, hf⟩ := reachGo_anc (ops := ops) (t := j) ops.toList 0 0 (fun k => by simp) (fun i h => by simp at h) i h
  exact anc_listed dc f i j hf hi

def guardOk (m : Nat) (o : Oper) : Bool := match o.guard with
  | none => true
  | some (j, _) => Nat.blt j m
def lastOk (ops : Array Oper) (o : Oper) : Bool :=
  ((List.range ops.size).all fun i => reachB (ops.push o) ops.size i && ((ops[i]?).map fun q => guardOk ops.size q && q.after.all fun e => !Region.binds .any e || Nat.blt e.on i).getD false) && o.after.all fun e => !Region.binds .any e || Nat.blt e.on ops.size

structure LastF (ops : Array Oper) (o : Oper) : Prop where
  an : ∀ i, i < ops.size → reachB (ops.push o) ops.size i = true
  gd : ∀ (i : Nat) (q : Oper), ops[i]? = some q → guardOk ops.size q = true
  bk : ∀ (i : Nat) (q : Oper), ops[i]? = some q → ∀ e ∈ q.after, Region.binds .any e = true → e.on < i
  bo : ∀ e ∈ o.after, Region.binds .any e = true → e.on < ops.size

theorem lastF (h : lastOk ops o = true) : LastF ops o := by
  simp only [lastOk, Bool.and_eq_true, List.all_eq_true, List.mem_range, Array.all_eq_true_iff_forall_mem] at h
  obtain ⟨h1, h2⟩ := h
  refine ⟨fun i hi => (h1 i hi).1, fun i q hq => ?_, fun i q hq e he hb => ?_, fun e he hb => ?_⟩
  · have := (h1 i (Array.getElem?_eq_some_iff.1 hq).1).2
    simp only [hq, Option.map_some, Option.getD_some, Bool.and_eq_true] at this
    exact this.1
  · have := (h1 i (Array.getElem?_eq_some_iff.1 hq).1).2
    simp only [hq, Option.map_some, Option.getD_some, Bool.and_eq_true, Array.all_eq_true_iff_forall_mem] at this
    have h3 := this.2 e he
    simp only [hb, Bool.not_true, Bool.false_or] at h3
    exact Nat.le_of_ble_eq_true h3
  · have h3 := h2 e he
    simp only [hb, Bool.not_true, Bool.false_or] at h3
    exact Nat.le_of_ble_eq_true h3

theorem push_at {i : Nat} (hi : i < ops.size) : (ops.push o)[i]? = ops[i]? := by
  rw [Array.getElem?_push_lt hi, Array.getElem?_eq_getElem hi]
theorem getD_push {l : Array Bool} {i : Nat} {d : Bool} (hi : i < l.size) : (l.push false).getD i d = l.getD i d := by
  have h1 : i < l.size + 1 := by omega
  simp [Array.getD, Array.getElem_push_lt, hi, h1]
theorem set_push {l : Array Bool} {i : Nat} (hi : i < l.size) : (l.push false).setIfInBounds i true = (l.setIfInBounds i true).push false := by
  apply Array.ext_getElem?
  intro j
  rw [Array.getElem?_setIfInBounds, Array.getElem?_push, Array.getElem?_push, Array.getElem?_setIfInBounds, Array.size_setIfInBounds, Array.size_push]
  by_cases h1 : i = j
  · subst h1
    have h2 : i ≠ l.size := by omega
    have h3 : i < l.size + 1 := by omega
    simp [hi, h2, h3]
  · simp [h1]

theorem wanted_push (F : LastF ops o) {i : Nat} {q : Oper} (hq : ops[i]? = some q) (s : St) : Region.wanted q (yieldedE (ops.push o) n s) = Region.wanted q (yieldedE ops n s) := by
  have h := F.gd i q hq
  unfold guardOk at h
  unfold Region.wanted
  cases hg : q.guard with
  | none => rfl
  | some g =>
    obtain ⟨j, b⟩ := g
    rw [hg] at h
    have hj : j < ops.size := Nat.le_of_ble_eq_true h
    simp only
    unfold yieldedE
    rw [push_at hj]

theorem anyO_push (F : LastF ops o) : ∀ (f : Nat) (listed : Array Bool) (s : St) (w : World), listed.size = ops.size →
    (∀ i q, listed.getD i false = true → ops[i]? = some q → ∀ e ∈ q.after, Region.binds .any e = true → listed.getD e.on false = true) →
    AnyO P r n ops (fun s w => Op1 P r n (ops.push o) K X ops.size s w) X f listed s w → AnyO P r n (ops.push o) K X (f + 1) (listed.push false) s w := by
  intro f
  induction f with
  | zero =>
    intro listed s w hsz hdc h
    obtain ⟨hr, hK⟩ := h
    exact last_step F listed s w hsz hdc 0 (fun _ => hK) (fun i hi => by rw [hr] at hi; cases hi)
  | succ f ih =>
    intro listed s w hsz hdc h
    obtain ⟨hK, hS⟩ := h
    refine last_step F listed s w hsz hdc (f + 1) hK fun i hi => ?_
    have him : i < ops.size := by
      obtain ⟨-, q, hq, -⟩ := mem_ready.1 hi
      exact (Array.getElem?_eq_some_iff.1 hq).1
    have h1 := hS i hi
    obtain ⟨hn, q, hq, hpre⟩ := mem_ready.1 hi
    have hset : ∀ j, (listed.setIfInBounds i true).getD j false = (if i = j ∧ i < listed.size then true else listed.getD j false) := fun j => by
      simp only [Array.getD_eq_getD_getElem?, Array.getElem?_setIfInBounds]
      by_cases h : i = j
      · subst h
        have : i < listed.size := by omega
        simp [this]
      · simp [h]
    have hdc' : ∀ j q, (listed.setIfInBounds i true).getD j false = true → ops[j]? = some q → ∀ e ∈ q.after, Region.binds .any e = true → (listed.setIfInBounds i true).getD e.on false = true := by
      intro j q' hj hq' e he hb
      rw [hset] at hj ⊢
      by_cases h2 : i = e.on ∧ i < listed.size
      · rw [if_pos h2]
      · rw [if_neg h2]
        by_cases h3 : i = j ∧ i < listed.size
        · obtain ⟨rfl, -⟩ := h3
          rw [hq] at hq'
          cases hq'
          exact hpre e he hb
        · rw [if_neg h3] at hj
          exact hdc j q' hj hq' e he hb
    rw [set_push (by omega)]
    unfold Op1 at h1 ⊢
    rw [push_at him, hq]
    rw [hq] at h1
    simp only at h1 ⊢
    rw [wanted_push F hq]
    split
    · rename_i hw
      rw [if_pos hw] at h1
      exact opW_mono (fun s' w' h' => ih _ s' w' (by simpa using hsz) hdc' h') (fun _ _ h => h) h1
    · rename_i hw
      rw [if_neg hw] at h1
      exact ih _ _ w (by simpa using hsz) hdc' h1
where
  last_step (F : LastF ops o) (listed : Array Bool) (s : St) (w : World) (hsz : listed.size = ops.size)
      (hdc : ∀ i q, listed.getD i false = true → ops[i]? = some q → ∀ e ∈ q.after, Region.binds .any e = true → listed.getD e.on false = true)
      (f : Nat) (hK : Region.ready .any ops listed = [] → Op1 P r n (ops.push o) K X ops.size s w)
      (hS : ∀ i ∈ Region.ready .any ops listed, Op1 P r n (ops.push o) (AnyO P r n (ops.push o) K X f ((listed.push false).setIfInBounds i true)) X i s w) :
      AnyO P r n (ops.push o) K X (f + 1) (listed.push false) s w := by
    have hpp : ∀ i, i < ops.size → ((listed.push false).getD i true = listed.getD i true ∧ (listed.push false).getD i false = listed.getD i false) := fun i hi => ⟨getD_push (by omega), getD_push (by omega)⟩
    have hmem : ∀ i, i < ops.size → (i ∈ Region.ready .any (ops.push o) (listed.push false) → i ∈ Region.ready .any ops listed) := by
      intro i hi h
      obtain ⟨h1, q, hq, h2⟩ := mem_ready.1 h
      rw [push_at hi] at hq
      refine mem_ready.2 ⟨by rw [← (hpp i hi).1]; exact h1, q, hq, fun e he hb => ?_⟩
      have h3 := h2 e he hb
      rwa [getD_push (by have := F.bk i q hq e he hb; omega)] at h3
    have hback : ∀ i, i < ops.size → i ∈ Region.ready .any ops listed → i ∈ Region.ready .any (ops.push o) (listed.push false) := by
      intro i hi h
      obtain ⟨h1, q, hq, h2⟩ := mem_ready.1 h
      refine mem_ready.2 ⟨by rw [(hpp i hi).1]; exact h1, q, by rw [push_at hi]; exact hq, fun e he hb => ?_⟩
      rw [getD_push (by have := F.bk i q hq e he hb; omega)]
      exact h2 e he hb
    have hall : (∀ i, i < ops.size → listed.getD i false = true) → ops.size ∈ Region.ready .any (ops.push o) (listed.push false) := fun h => by
      refine mem_ready.2 ⟨?_, o, by simp, fun e he hb => ?_⟩
      · simp [Array.getD, ← hsz]
      · have := F.bo e he hb
        rw [getD_push (by omega)]
        exact h _ this
    have hdone : Region.ready .any ops listed = [] → ∀ i, i < ops.size → listed.getD i false = true := by
      intro hr i
      induction i using Nat.strongRecOn with
      | _ i ih =>
        intro hi
        by_cases hl : listed.getD i false = true
        · exact hl
        · exfalso
          have : i ∈ Region.ready .any ops listed := by
            rw [mem_ready]
            refine ⟨by rw [getD_flip (by omega)]; simpa using hl, ops[i], by simp [hi], fun e he hb => ?_⟩
            have h1 := F.bk i ops[i] (by simp [hi]) e he hb
            exact ih e.on h1 (by omega)
          rw [hr] at this
          cases this
    refine ⟨fun hr => ?_, fun i hi => ?_⟩
    · exfalso
      by_cases hr2 : Region.ready .any ops listed = []
      · have := hall (hdone hr2)
        rw [hr] at this
        cases this
      · obtain ⟨i, l, he⟩ := List.exists_cons_of_ne_nil hr2
        have him : i ∈ Region.ready .any ops listed := by rw [he]; exact List.mem_cons_self
        have hlt : i < ops.size := by
          obtain ⟨-, q, hq, -⟩ := mem_ready.1 him
          exact (Array.getElem?_eq_some_iff.1 hq).1
        have := hback i hlt him
        rw [hr] at this
        cases this
    · by_cases him : i < ops.size
      · exact hS i (hmem i him hi)
      · have hie : i = ops.size := by
          obtain ⟨-, q, hq, -⟩ := mem_ready.1 hi
          have := (Array.getElem?_eq_some_iff.1 hq).1
          simp at this
          omega
        subst hie
        obtain ⟨h1, q, hq, h2⟩ := mem_ready.1 hi
        have hqo : q = o := by simp at hq; exact hq.symm
        subst hqo
        have hlist : ∀ i, i < ops.size → listed.getD i false = true := fun i hi => by
          have h3 := reach_listed (ops := ops.push q) (listed := listed.push false) (fun j q' hj hq' e he hb => ?_) ops.size i (F.an i hi) (fun o' ho' e he hb => ?_)
          · rwa [getD_push (by omega)] at h3
          · have hjl : j < ops.size := by
              rcases Nat.lt_or_ge j ops.size with h | h
              · exact h
              · have : (listed.push false).getD j false = false := by
                  rcases Nat.lt_or_ge j (ops.size + 1) with h' | h'
                  · obtain rfl : j = ops.size := by omega
                    simp [Array.getD, ← hsz]
                  · have hj' : ¬ j < listed.size + 1 := by omega
                    simp [Array.getD, hj']
                rw [this] at hj
                cases hj
            rw [getD_push (by omega)] at hj
            rw [push_at hjl] at hq'
            rw [getD_push (by have := F.bk j q' hq' e he hb; omega)]
            exact hdc j q' hj hq' e he hb
          · rw [hq] at ho'
            cases ho'
            exact h2 e he hb
        have hrn : Region.ready .any ops listed = [] := by
          cases hr : Region.ready .any ops listed with
          | nil => rfl
          | cons j l =>
            have hj : j ∈ Region.ready .any ops listed := by rw [hr]; exact List.mem_cons_self
            obtain ⟨h3, q', hq', -⟩ := mem_ready.1 hj
            have hjl := (Array.getElem?_eq_some_iff.1 hq').1
            have := hlist j hjl
            rw [getD_flip (by omega), this] at h3
            cases h3
        refine op1_mono (fun s' w' hk => ?_) (hK hrn)
        have hr0 : Region.ready .any (ops.push q) ((listed.push false).setIfInBounds ops.size true) = [] := by
          cases hr : Region.ready .any (ops.push q) ((listed.push false).setIfInBounds ops.size true) with
          | nil => rfl
          | cons j l =>
            have hj : j ∈ Region.ready .any (ops.push q) ((listed.push false).setIfInBounds ops.size true) := by rw [hr]; exact List.mem_cons_self
            obtain ⟨h3, q', hq', -⟩ := mem_ready.1 hj
            have hjl := (Array.getElem?_eq_some_iff.1 hq').1
            simp at hjl
            exfalso
            simp only [Array.getD_eq_getD_getElem?, Array.getElem?_setIfInBounds, Array.size_push] at h3
            by_cases hjm : ops.size = j
            · subst hjm
              simp [hsz] at h3
            · rw [if_neg hjm, ← Array.getD_eq_getD_getElem?, getD_push (by omega), getD_flip (by omega), hlist j (by omega)] at h3
              cases h3
        cases f with
        | zero => exact ⟨hr0, hk⟩
        | succ f => exact ⟨fun _ => hk, fun i hi => by rw [hr0] at hi; cases hi⟩
end

section
variable {K : St → World → Prop} {Q : Ex} {s : St} {w : World}
theorem wk_last {id : Nat} {ol ol' : List Oper} {o : Oper} (hl : ol = ol' ++ [o]) (hchk : lastOk ol'.toArray o = true)
    (h : ∀ w', To w w' w.heap → AnyO P r n ol'.toArray (fun s w => OpsL P r n ol.toArray K (fun c => Q (.panic c)) [o] s w) (fun c => Q (.panic c)) ol'.toArray.size (Array.replicate ol'.toArray.size false) s w')
    (hm : P.follows .mixedOrders = true := by rfl) : WK P r n (.region id ol.toArray true) K Q s w := by
  subst hl
  unfold WK
  refine w_region_any hm fun w' hw' => ?_
  have e1 : (ol' ++ [o]).toArray = ol'.toArray.push o := by simp
  have h1 := h w' hw'
  rw [e1] at h1 ⊢
  rw [Array.size_push, Array.replicate_succ]
  refine anyO_push (lastF hchk) _ _ s w' (by simp) (fun i q hi => ?_) ?_
  · exfalso; simp [Array.getD] at hi
  · refine anyO_mono ?_ h1
    intro s w h2
    unfold Op1
    simp only [Array.getElem?_push_size]
    exact h2
where
  anyO_mono {ops : Array Oper} {K K' : St → World → Prop} {X : List PanicEntry → St → World → Prop} (hk : ∀ s w, K s w → K' s w) : ∀ {f : Nat} {listed : Array Bool} {s : St} {w : World}, AnyO P r n ops K X f listed s w → AnyO P r n ops K' X f listed s w
    | 0, _, _, _, h => ⟨h.1, hk _ _ h.2⟩
    | f + 1, _, _, _, h => ⟨fun hr => hk _ _ (h.1 hr), fun i hi => op1_mono (fun _ _ h' => anyO_mono hk h') (h.2 i hi)⟩

theorem any_draw {ops : Array Oper} {X : List PanicEntry → St → World → Prop} (H E T : List Nat) (C C2 : World → Prop) (hchk : regOk ops H E T = true) (hX : ∀ c s s' w, X c s w → X c s' w) (hC : ∀ w', To w w' w.heap → C w') (hCC : ∀ w', C w' → C2 w')
    (h : OpsQ P r n ops E C C2 (fun sT => ∀ w', C w' → OpsC P r n ops C2 K X T sT w') H s) : ∀ w', To w w' w.heap → AnyO P r n ops K X ops.size (Array.replicate ops.size false) s w' := by
  have F := regFacts hchk
  intro w' hw'
  obtain ⟨sT, h1, h2, h3, h4⟩ := opsQ_facts F H [] (by simp) s h
  refine inv_any F hX h4 hCC h1 ops.size _ s w' ?_ ⟨by simp, fun i o hi => ?_, fun j _ hl => ?_, fun t ht => (h2 t fun j _ => ht j).symm, [], T, rfl, (fun j hj => nomatch hj), (fun j hj => ?_), .inl ⟨rfl, hC w' hw', ?_⟩⟩
  · unfold unl
    exact Nat.le_trans (List.length_filter_le _ _) (by simp)
  · exfalso; simp [Array.getD] at hi
  · exfalso; simp [Array.getD] at hl
  · simp [Array.getD]
  · refine St.ext (fun t => ?_) ?_
    · simp only [fill]
      split
      · rfl
      · rename_i hx
        exact (h2 t fun j hj hd => hx ⟨j, hj, hd⟩).symm
    · simp only [fill]; exact h3.symm
end
end Go.Pd

/-
  Drawn regions in which every operation only adds memory: quiet ones (known values), and groups of ones whose answers lie in fresh memory (known by what they are like).
-/
set_option linter.unusedSimpArgs false
set_option linter.unnecessarySimpa false
set_option maxRecDepth 10000
set_option linter.unusedVariables false
namespace Go.Pd
variable {P : Program} {r : Option Nat} {n : Nat}

def RunG (P : Program) (r : Option Nat) (n : Nat) (o : Oper) (s : St) (w : World) (R : Value → World → Prop) : Prop :=
  OpW P r n o s w (fun s' w' => ∃ u, s' = s.put o.dst u ∧ Ext w w' ∧ R u w') (fun _ _ => False)
def YldG (P : Program) (r : Option Nat) (n : Nat) (w0 : World) (o : Oper) (s : St) (v : Value) : Prop := ∀ w, Ext w0 w → RunG P r n o s w (fun u _ => u = v)

def OpsX (P : Program) (r : Option Nat) (n : Nat) (ops : Array Oper) (w0 : World) (k : St → Prop) : List Nat → St → Prop
  | [], s => k s
  | i :: l, s =>
    match ops[i]? with
    | none => False
    | some o => if Region.wanted o (yieldedE ops n s) then ∃ v, YldG P r n w0 o s v ∧ OpsX P r n ops w0 k l (s.put o.dst v) else OpsX P r n ops w0 k l (s.put o.dst undef)

def fillv (ops : Array Oper) (T : List Nat) (s : St) (vs : Nat → Value) : St := T.foldl (fun s i => s.put (dstOf ops i) (vs i)) s
def slotv (ops : Array Oper) (s : St) (j : Nat) : Value := match dstOf ops j with | some d => s.t d | none => undef

def Prem (P : Program) (r : Option Nat) (n : Nat) (ops : Array Oper) (T : List Nat) (w0 : World) (R : Nat → Value → World → Prop) (s : St) (vs : Nat → Value) (i : Nat) : Prop :=
  match ops[i]? with
  | none => False
  | some o => o.dst.isSome = true ∧ Region.wanted o (yieldedE ops n s) = true ∧ ∀ w, Ext w0 w → (∀ j ∈ T, reachB ops i j = true → R j (vs j) w) → RunG P r n o s w (R i)

def SegG (P : Program) (r : Option Nat) (n : Nat) (ops : Array Oper) (K : St → World → Prop) : List (List Nat × List Nat) → World → St → Prop
  | [], w0, s => ∀ w, Ext w0 w → K s w
  | (H, T) :: l, w0, s => OpsX P r n ops w0 (fun sT => ∃ R : Nat → Value → World → Prop, (∀ i v w w', R i v w → Ext w w' → R i v w') ∧
      ∀ vs : Nat → Value, (∀ i ∈ T, Prem P r n ops T w0 R (fillv ops T sT vs) vs i) ∧ ∀ w1, Ext w0 w1 → (∀ i ∈ T, R i (vs i) w1) → SegG P r n ops K l w1 (fillv ops T sT vs)) H s

def flatS (l : List (List Nat × List Nat)) : List Nat := l.flatMap fun x => x.1 ++ x.2
def segsOk (ops : Array Oper) : List (List Nat × List Nat) → Bool
  | [] => true
  | (H, T) :: l => ((flatS l).all fun i => T.all fun t => reachB ops i t) && segsOk ops l
def growOk (ops : Array Oper) (segs : List (List Nat × List Nat)) : Bool := regOk ops (flatS segs) [] [] && segsOk ops segs

section
variable {ops : Array Oper} {L : List Nat} {K : St → World → Prop} {X : List PanicEntry → St → World → Prop}

theorem put_same {s s' : St} {d : Option Nat} {u v : Value} (h : s.put d v = s.put d u) : s'.put d v = s'.put d u := by
  cases d with
  | none => rfl
  | some k =>
    have h1 := congrArg (fun q : St => q.t k) h
    simp only [put_some, St.set_t, if_true] at h1
    rw [h1]

theorem runG_opW {o : Oper} {s s' : St} {w : World} {R : Value → World → Prop} {K' : St → World → Prop} {X' : List PanicEntry → World → Prop} (h : RunG P r n o s w R) (he : o.semAt r (rd n s) = o.semAt r (rd n s')) (hk : ∀ v w', Ext w w' → R v w' → K' (s'.put o.dst v) w') : OpW P r n o s' w K' X' := by
  unfold RunG OpW at h
  unfold OpW
  rw [← he]
  generalize (o.semAt r (rd n s)).run P w = res at *
  have hv : ∀ v w', (∃ u, s.put o.dst v = s.put o.dst u ∧ Ext w w' ∧ R u w') → K' (s'.put o.dst v) w' := fun v w' ⟨u, h1, h2, h3⟩ => by
    rw [put_same h1]
    exact hk u w' h2 h3
  cases res with
  | ok m w' =>
    cases m <;> simp only at h ⊢
    case value u => exact hv _ _ h
    case skip => exact hv _ _ h
    case defer d =>
      obtain ⟨u, h1, -⟩ := h
      have h2 := congrArg (fun q : St => q.d) h1
      simp only [put_d] at h2
      exact absurd (congrArg List.length h2) (by simp)
    case enter f args => exact h.mono fun e w'' he => by cases e <;> first | exact hv _ _ he | exact he.elim
    case round => exact RoundIn.mono h fun e w'' he => by cases e <;> first | exact hv _ _ he | exact he.elim
  | halt x w' => cases x <;> simp only at h

theorem RunG.congr {o : Oper} {s s' : St} {w : World} {R : Value → World → Prop} (h : RunG P r n o s w R) (he : o.semAt r (rd n s) = o.semAt r (rd n s')) : RunG P r n o s' w R :=
  runG_opW h he fun v w' h1 h2 => ⟨v, rfl, h1, h2⟩

theorem fillv_other : ∀ (T : List Nat) (s : St) (vs : Nat → Value) (t : Nat), (∀ i ∈ T, dstOf ops i ≠ some t) → (fillv ops T s vs).t t = s.t t
  | [], _, _, _, _ => rfl
  | i :: T, s, vs, t, h => by
    show (fillv ops T (s.put (dstOf ops i) (vs i)) vs).t t = s.t t
    rw [fillv_other T _ vs t fun j hj => h j (List.mem_cons_of_mem _ hj), put_t (h i List.mem_cons_self)]
theorem fillv_d : ∀ (T : List Nat) (s : St) (vs : Nat → Value), (fillv ops T s vs).d = s.d
  | [], _, _ => rfl
  | i :: T, s, vs => by
    show (fillv ops T (s.put (dstOf ops i) (vs i)) vs).d = s.d
    rw [fillv_d T, put_d]
theorem fillv_at (hd : ∀ i j d, i ≠ j → dstOf ops i = some d → dstOf ops j ≠ some d) : ∀ (T : List Nat) (s : St) (vs : Nat → Value) (i d : Nat), i ∈ T → dstOf ops i = some d → (fillv ops T s vs).t d = vs i
  | [], _, _, _, _, h, _ => nomatch h
  | j :: T, s, vs, i, d, h, hdi => by
    show (fillv ops T (s.put (dstOf ops j) (vs j)) vs).t d = vs i
    by_cases hm : i ∈ T
    · exact fillv_at hd T _ vs i d hm hdi
    · have hij : i = j := (List.mem_cons.1 h).resolve_right hm
      subst hij
      rw [fillv_other T _ vs d fun k hk => hd i k d (fun e => hm (e ▸ hk)) hdi, hdi, put_some, St.set_t, if_pos rfl]

def FactX (P : Program) (r : Option Nat) (n : Nat) (ops : Array Oper) (w0 : World) (sT : St) (i : Nat) : Prop :=
  ∃ o, ops[i]? = some o ∧ ((Region.wanted o (yieldedE ops n sT) = true ∧ ∃ v, YldG P r n w0 o sT v ∧ ∀ d, o.dst = some d → sT.t d = v) ∨
    (Region.wanted o (yieldedE ops n sT) = false ∧ ∀ d, o.dst = some d → sT.t d = undef))

theorem factX_congr (F : RegFacts ops L [] []) {w0 w1 : World} {sT sT' : St} {i : Nat} (h : FactX P r n ops w0 sT i) (e : Ext w0 w1) (hl : ∀ t, Look ops i t → sT.t t = sT'.t t) (hd : ∀ d, dstOf ops i = some d → sT.t d = sT'.t d) : FactX P r n ops w1 sT' i := by
  obtain ⟨o, ho, h⟩ := h
  have hl' : ∀ t ∈ o.looksAt ops, sT.t t = sT'.t t := fun t ht => hl t ⟨o, ho, ht⟩
  have hsem : o.semAt r (rd n sT) = o.semAt r (rd n sT') := semAt_congr ops (F.plain i o ho) hl'
  have hwn : Region.wanted o (yieldedE ops n sT) = Region.wanted o (yieldedE ops n sT') := wanted_congr ops hl'
  have hdo : ∀ d, o.dst = some d → sT.t d = sT'.t d := fun d h => hd d (by simp [dstOf, ho, h])
  refine ⟨o, ho, ?_⟩
  rw [← hwn]
  rcases h with ⟨h1, v, h2, h3⟩ | ⟨h1, h2⟩
  · exact .inl ⟨h1, v, fun w hw => (h2 w (e.trans hw)).congr hsem, fun d hd => by rw [← hdo d hd]; exact h3 d hd⟩
  · exact .inr ⟨h1, fun d hd => by rw [← hdo d hd]; exact h2 d hd⟩

theorem opsX_facts (F : RegFacts ops L [] []) {w0 : World} {k : St → Prop} : ∀ (l l1 l2 : List Nat), L = l1 ++ (l ++ l2) → ∀ s, OpsX P r n ops w0 k l s →
    ∃ sT, k sT ∧ (∀ t, (∀ i ∈ l, dstOf ops i ≠ some t) → sT.t t = s.t t) ∧ sT.d = s.d ∧ ∀ i ∈ l, FactX P r n ops w0 sT i
  | [], l1, _, _, s, h => ⟨s, h, fun _ _ => rfl, rfl, fun _ h => nomatch h⟩
  | i :: l, l1, l2, hl, s, h => by
    simp only [OpsX] at h
    have hsplit : L ++ [] = l1 ++ i :: (l ++ l2) := by rw [hl]; simp
    obtain ⟨hni, hdata⟩ := F.data l1 i (l ++ l2) hsplit
    cases ho : ops[i]? with
    | none => rw [ho] at h; exact h.elim
    | some o =>
      simp only [ho] at h
      have hlater : ∀ j ∈ l, j ∉ l1 ∧ j ≠ i := fun j hj => by
        obtain ⟨m1, m2, rfl⟩ := List.append_of_mem hj
        have := (F.data (l1 ++ i :: m1) j (m2 ++ l2) (by rw [hl]; simp)).1
        simp at this
        exact ⟨this.1, this.2.1⟩
      have hlook : ∀ t ∈ o.looksAt ops, (∀ j ∈ l, dstOf ops j ≠ some t) ∧ o.dst ≠ some t := fun t ht => by
        refine ⟨fun j hj hd => (hlater j hj).1 (hdata t j ⟨o, ho, ht⟩ hd).1, fun hd => ?_⟩
        have : dstOf ops i = some t := by simp [dstOf, ho, hd]
        exact hni (hdata t i ⟨o, ho, ht⟩ this).1
      have step : ∀ v, OpsX P r n ops w0 k l (s.put o.dst v) → ∃ sT, k sT ∧ (∀ t, (∀ j ∈ i :: l, dstOf ops j ≠ some t) → sT.t t = s.t t) ∧ sT.d = s.d ∧ (∀ j ∈ l, FactX P r n ops w0 sT j) ∧
          (∀ t ∈ o.looksAt ops, s.t t = sT.t t) ∧ (∀ d, o.dst = some d → sT.t d = v) := fun v hv => by
        obtain ⟨sT, h1, h2, h3, h4⟩ := opsX_facts F l (l1 ++ [i]) l2 (by rw [hl]; simp) _ hv
        refine ⟨sT, h1, fun t ht => ?_, by rw [h3, put_d], h4, fun t ht => ?_, fun d hd => ?_⟩
        · rw [h2 t (fun j hj => ht j (List.mem_cons_of_mem _ hj)), put_t]
          intro hd
          exact ht i List.mem_cons_self (by simp [dstOf, ho, hd])
        · rw [h2 t (hlook t ht).1, put_t (hlook t ht).2]
        · rw [h2 d (fun j hj => F.dist i j d (fun e => (hlater j hj).2 e.symm) (by simp [dstOf, ho, hd])), hd, put_some, St.set_t, if_pos rfl]
      by_cases hw : Region.wanted o (yieldedE ops n s) = true
      · rw [if_pos hw] at h
        obtain ⟨v, hv, hrest⟩ := h
        obtain ⟨sT, h1, h2, h3, h4, h5, h6⟩ := step v hrest
        refine ⟨sT, h1, h2, h3, fun j hj => ?_⟩
        rcases List.mem_cons.1 hj with rfl | hj
        · refine ⟨o, ho, .inl ⟨by rw [← wanted_congr ops h5]; exact hw, v, fun w hw' => ?_, h6⟩⟩
          have he := semAt_congr (r := r) (n := n) ops (F.plain _ o ho) h5
          exact (hv w hw').congr he
        · exact h4 j hj
      · rw [if_neg hw] at h
        obtain ⟨sT, h1, h2, h3, h4, h5, h6⟩ := step undef h
        refine ⟨sT, h1, h2, h3, fun j hj => ?_⟩
        rcases List.mem_cons.1 hj with rfl | hj
        · exact ⟨o, ho, .inr ⟨by rw [← wanted_congr ops h5]; simpa using hw, h6⟩⟩
        · exact h4 j hj

structure InvG (P : Program) (r : Option Nat) (n : Nat) (ops : Array Oper) (K : St → World → Prop) (L done T : List Nat) (rest : List (List Nat × List Nat)) (w0 : World) (R : Nat → Value → World → Prop) (sT : St) (listed : Array Bool) (s : St) (w : World) : Prop where
  sz : listed.size = ops.size
  dc : ∀ i o, listed.getD i false = true → ops[i]? = some o → ∀ e ∈ o.after, Region.binds .any e = true → listed.getD e.on false = true
  fl : L = done ++ (T ++ flatS rest)
  ext : Ext w0 w
  fact : ∀ j ∈ done, listed.getD j false = false → FactX P r n ops w0 sT j
  hb : ∀ j ∈ done, listed.getD j false = true → ∀ d, dstOf ops j = some d → s.t d = sT.t d
  hc : ∀ t, (∀ j, dstOf ops j ≠ some t) → s.t t = sT.t t
  hd : s.d = sT.d
  hR : ∀ j ∈ T, listed.getD j false = true → ∀ d, dstOf ops j = some d → R j (s.t d) w
  un : ∀ j ∈ flatS rest, listed.getD j false = false
  st : ∀ i v w w', R i v w → Ext w w' → R i v w'
  cont : ∀ vs : Nat → Value, (∀ i ∈ T, Prem P r n ops T w0 R (fillv ops T sT vs) vs i) ∧ ∀ w1, Ext w0 w1 → (∀ i ∈ T, R i (vs i) w1) → SegG P r n ops K rest w1 (fillv ops T sT vs)
  opn : (∃ j ∈ T, listed.getD j false = false) ∨ (T = [] ∧ rest = [])
  od : ∀ i ∈ flatS rest, ∀ t ∈ T, reachB ops i t = true
  os : segsOk ops rest = true

theorem segsOk_cons {H T : List Nat} {l : List (List Nat × List Nat)} (h : segsOk ops ((H, T) :: l) = true) : (∀ i ∈ flatS l, ∀ t ∈ T, reachB ops i t = true) ∧ segsOk ops l = true := by
  simp only [segsOk, Bool.and_eq_true, List.all_eq_true] at h
  exact h

theorem later_slots (F : RegFacts ops L [] []) {l1 l2 : List Nat} (hL : L = l1 ++ l2) {i t : Nat} (hi : i ∈ l1) (h : Look ops i t ∨ dstOf ops i = some t) : ∀ j ∈ l2, dstOf ops j ≠ some t := by
  intro j hj hd
  obtain ⟨m1, m2, rfl⟩ := List.append_of_mem hi
  obtain ⟨k1, k2, rfl⟩ := List.append_of_mem hj
  have hjn := (F.data (m1 ++ i :: m2 ++ k1) j k2 (by rw [hL]; simp)).1
  rcases h with h | h
  · have h1 := ((F.data m1 i (m2 ++ (k1 ++ j :: k2)) (by rw [hL]; simp)).2 t j h hd).1
    exact hjn (by simp [h1])
  · exact F.dist i j t (fun e => hjn (by simp [e])) h hd

theorem grow_adv (F : RegFacts ops L [] []) : ∀ (rest : List (List Nat × List Nat)) (done : List Nat) (w1 : World) (sC : St) (listed : Array Bool) (s : St) (w : World), listed.size = ops.size →
    (∀ i o, listed.getD i false = true → ops[i]? = some o → ∀ e ∈ o.after, Region.binds .any e = true → listed.getD e.on false = true) →
    L = done ++ flatS rest → segsOk ops rest = true → SegG P r n ops K rest w1 sC → Ext w1 w → (∀ j ∈ done, listed.getD j false = false → FactX P r n ops w1 sC j) →
    (∀ j ∈ done, listed.getD j false = true → ∀ d, dstOf ops j = some d → s.t d = sC.t d) → (∀ t, (∀ j, dstOf ops j ≠ some t) → s.t t = sC.t t) → s.d = sC.d → (∀ j ∈ flatS rest, listed.getD j false = false) →
    ∃ done' T' rest' w0' R' sT', InvG P r n ops K L done' T' rest' w0' R' sT' listed s w
  | [], done, w1, sC, listed, s, w, hsz, hdc, hL, hok, hS, he, hf, hb, hc, hd, hu =>
    ⟨done, [], [], w1, fun _ _ _ => True, sC, hsz, hdc, hL, he, hf, hb, hc, hd, (fun _ h => nomatch h), hu, (fun _ _ _ _ h _ => h), fun vs => ⟨(fun _ h => nomatch h), fun w2 h2 _ w3 h3 => hS w3 (h2.trans h3)⟩, .inr ⟨rfl, rfl⟩, (fun _ h => nomatch h), rfl⟩
  | (H, T) :: l, done, w1, sC, listed, s, w, hsz, hdc, hL, hok, hS, he, hf, hb, hc, hd, hu => by
    have hfl : flatS ((H, T) :: l) = H ++ (T ++ flatS l) := by simp [flatS]
    rw [hfl] at hL hu
    obtain ⟨ho1, ho2⟩ := segsOk_cons hok
    obtain ⟨sT, ⟨R, hst, hvs⟩, h2, h3, h4⟩ := opsX_facts F H done (T ++ flatS l) hL sC hS
    have hHn : ∀ j ∈ H, listed.getD j false = false := fun j hj => hu j (by simp [hj])
    have hdone : ∀ j ∈ done, ∀ t, (Look ops j t ∨ dstOf ops j = some t) → sT.t t = sC.t t := fun j hj t ht => h2 t fun i hi => later_slots F hL hj ht i (by simp [hi])
    have hf' : ∀ j ∈ done ++ H, listed.getD j false = false → FactX P r n ops w1 sT j := fun j hj hl => by
      rcases List.mem_append.1 hj with hj | hj
      · exact factX_congr F (hf j hj hl) (.refl _ _) (fun t ht => (hdone j hj t (.inl ht)).symm) (fun d hd => (hdone j hj d (.inr hd)).symm)
      · exact h4 j hj
    have hb' : ∀ j ∈ done ++ H, listed.getD j false = true → ∀ d, dstOf ops j = some d → s.t d = sT.t d := fun j hj hl d hd => by
      rcases List.mem_append.1 hj with hj | hj
      · rw [hdone j hj d (.inr hd)]; exact hb j hj hl d hd
      · rw [hHn j hj] at hl; cases hl
    have hc' : ∀ t, (∀ j, dstOf ops j ≠ some t) → s.t t = sT.t t := fun t ht => (hc t ht).trans (h2 t fun i _ => ht i).symm
    have hd' : s.d = sT.d := hd.trans h3.symm
    by_cases hT : T = []
    · subst hT
      have hS' := (hvs fun _ => undef).2 w1 (.refl _ _) (fun _ h => nomatch h)
      exact grow_adv F l (done ++ H) w1 sT listed s w hsz hdc (by rw [hL]; simp) ho2 hS' he hf' hb' hc' hd' fun j hj => hu j (by simp [hj])
    · obtain ⟨t0, ht0⟩ := List.exists_mem_of_ne_nil T hT
      exact ⟨done ++ H, T, l, w1, R, sT, hsz, hdc, by rw [hL]; simp, he, hf', hb', hc', hd', (fun j hj hl => absurd hl (by rw [hu j (by simp [hj])]; decide)), (fun j hj => hu j (by simp [hj])), hst, hvs, .inl ⟨t0, ht0, hu t0 (by simp [ht0])⟩, ho1, ho2⟩

theorem grow_any (F : RegFacts ops L [] []) (hX : ∀ c s s' w, X c s w → X c s' w) : ∀ (f : Nat) (listed : Array Bool) (s : St) (w : World) (done T : List Nat) (rest : List (List Nat × List Nat)) (w0 : World) (R : Nat → Value → World → Prop) (sT : St),
    unl ops listed ≤ f → InvG P r n ops K L done T rest w0 R sT listed s w → AnyO P r n ops K X f listed s w := by
  have hmemL : ∀ i, i < ops.size → i ∈ L := fun i hi => (F.cover i hi).resolve_right (fun h => nomatch h)
  have hend : ∀ (listed : Array Bool) (s : St) (w : World) (done T : List Nat) (rest : List (List Nat × List Nat)) (w0 : World) (R : Nat → Value → World → Prop) (sT : St), (∀ i, i < ops.size → listed.getD i false = true) → InvG P r n ops K L done T rest w0 R sT listed s w → K s w := by
    intro listed s w done T rest w0 R sT hall hI
    have hlt : ∀ j ∈ L, j < ops.size := fun j hj => F.lt j (by simp [hj])
    rcases hI.opn with ⟨j, hj, hl⟩ | ⟨rfl, rfl⟩
    · rw [hall j (hlt j (by rw [hI.fl]; simp [hj]))] at hl; cases hl
    · have hS := (hI.cont fun _ => undef).2 w0 (.refl _ _) (fun _ h => nomatch h)
      have hs : s = sT := by
        refine St.ext (fun t => ?_) hI.hd
        by_cases hx : ∃ j, dstOf ops j = some t
        · obtain ⟨j, hj⟩ := hx
          have hjl := dstOf_lt hj
          have hjd : j ∈ done := by
            have := hmemL j hjl
            rw [hI.fl] at this
            simpa [flatS] using this
          exact hI.hb j hjd (hall j hjl) t hj
        · exact hI.hc t fun j hj => hx ⟨j, hj⟩
      rw [hs]
      exact hS w hI.ext
  intro f
  induction f with
  | zero =>
    intro listed s w done T rest w0 R sT hu hI
    have hall : ∀ i, i < ops.size → listed.getD i false = true := fun i hi => by
      by_cases hl : listed.getD i false = true
      · exact hl
      · exfalso
        have : i ∈ (List.range ops.size).filter fun i => !listed.getD i false := by
          rw [List.mem_filter]; exact ⟨List.mem_range.2 hi, by simpa using hl⟩
        have := List.length_pos_of_mem this
        unfold unl at hu
        omega
    refine ⟨?_, hend listed s w _ _ _ _ _ _ hall hI⟩
    cases hr : Region.ready .any ops listed with
    | nil => rfl
    | cons i l =>
      have : i ∈ Region.ready .any ops listed := by rw [hr]; exact List.mem_cons_self
      rw [mem_ready] at this
      obtain ⟨h0, o, ho, -⟩ := this
      have hi : i < ops.size := (Array.getElem?_eq_some_iff.1 ho).1
      have h1 := hall i hi
      rw [getD_flip (by rw [hI.sz]; exact hi)] at h0
      rw [h0] at h1
      cases h1
  | succ f ih =>
    intro listed s w done T rest w0 R sT hu hI
    refine ⟨fun hr => hend listed s w _ _ _ _ _ _ (done_all F hI.sz hr) hI, fun i hir => ?_⟩
    rw [mem_ready] at hir
    obtain ⟨h0, o, ho, hpre⟩ := hir
    have hi : i < ops.size := (Array.getElem?_eq_some_iff.1 ho).1
    have hil : i < listed.size := by rw [hI.sz]; exact hi
    rw [getD_flip hil] at h0
    have hset : ∀ j, (listed.setIfInBounds i true).getD j false = if j = i then true else listed.getD j false := fun j => by
      by_cases hj : j = i
      · subst hj; simp [Array.getD, hil]
      · rw [if_neg hj, getD_set_ne false (Ne.symm hj)]
    have hpre' : ∀ o', ops[i]? = some o' → ∀ e ∈ o'.after, Region.binds .any e = true → listed.getD e.on false = true := fun o' ho' => by
      rw [ho] at ho'; cases ho'; exact hpre
    have hu' : unl ops (listed.setIfInBounds i true) ≤ f := by
      have := filter_lt (fun j => !listed.getD j false) (fun j => !(listed.setIfInBounds i true).getD j false) i (fun x hx => by
        simp only [hset] at hx
        by_cases hxi : x = i
        · subst hxi; simp at hx
        · simpa [hxi] using hx) (by simp [h0]) (by simp [hset]) (List.range ops.size) (List.mem_range.2 hi)
      unfold unl at hu ⊢
      omega
    have hdc' : ∀ j o', (listed.setIfInBounds i true).getD j false = true → ops[j]? = some o' → ∀ e ∈ o'.after, Region.binds .any e = true → (listed.setIfInBounds i true).getD e.on false = true := fun j o' hj ho' e he hb => by
      rw [hset] at hj ⊢
      by_cases hji : j = i
      · subst hji
        have := hpre' o' ho' e he hb
        simp [this]
      · rw [if_neg hji] at hj
        have := hI.dc j o' hj ho' e he hb
        simp [this]
    have hsz' : (listed.setIfInBounds i true).size = ops.size := by simpa using hI.sz
    have hdst : dstOf ops i = o.dst := by simp [dstOf, ho]
    have hnot : ∀ (l1 l2 : List Nat), L = l1 ++ l2 → i ∈ l1 → i ∉ l2 := fun l1 l2 hL h1 h2 => by
      obtain ⟨k1, k2, rfl⟩ := List.append_of_mem h2
      have := (F.data (l1 ++ k1) i k2 (by rw [hL]; simp)).1
      simp at this
      exact this.1 h1
    -- whoever writes what i looks at is listed, and stands before it
    have hwr : ∀ (l1 l2 : List Nat), L = l1 ++ l2 → i ∈ l1 → ∀ t j, Look ops i t → dstOf ops j = some t → j ∈ l1 ∧ listed.getD j false = true := fun l1 l2 hL h1 t j hlk hj => by
      obtain ⟨m1, m2, rfl⟩ := List.append_of_mem h1
      obtain ⟨hjl, hje⟩ := (F.data m1 i (m2 ++ l2) (by rw [hL]; simp)).2 t j hlk hj
      obtain ⟨e, he, hb, hon⟩ := edge_on hje ho
      exact ⟨by simp [hjl], by rw [← hon]; exact hpre e he hb⟩
    show Op1 P r n ops _ X i s w
    unfold Op1
    simp only [ho]
    have hiL := hmemL i hi
    rw [hI.fl] at hiL
    rcases List.mem_append.1 hiL with hD | hTR
    · -- a quiet one
      have hlook : ∀ t ∈ o.looksAt ops, sT.t t = s.t t := fun t ht => by
        by_cases hx : ∃ j, dstOf ops j = some t
        · obtain ⟨j, hj⟩ := hx
          obtain ⟨h1, h2⟩ := hwr done _ hI.fl hD t j ⟨o, ho, ht⟩ hj
          exact (hI.hb j h1 h2 t hj).symm
        · exact (hI.hc t fun j hj => hx ⟨j, hj⟩).symm
      have hsem : o.semAt r (rd n sT) = o.semAt r (rd n s) := semAt_congr ops (F.plain i o ho) hlook
      have hwn : Region.wanted o (yieldedE ops n sT) = Region.wanted o (yieldedE ops n s) := wanted_congr ops hlook
      have hiT := hnot done _ hI.fl hD
      have hnext : ∀ v w', (∀ d, o.dst = some d → sT.t d = v) → Ext w w' → AnyO P r n ops K X f (listed.setIfInBounds i true) (s.put o.dst v) w' := fun v w' hv hw' => by
        have hneT : ∀ j ∈ T, j ≠ i := fun j hj e => hiT (by simp [← e, hj])
        refine ih _ _ _ done T rest w0 R sT hu' ⟨hsz', hdc', hI.fl, hI.ext.trans hw', fun j hj hl => ?_, fun j hj hl d hd => ?_, fun t ht => ?_, by rw [put_d]; exact hI.hd, fun j hj hl d hd => ?_, fun j hj => ?_, hI.st, hI.cont, ?_, hI.od, hI.os⟩
        · rw [hset] at hl
          by_cases hji : j = i
          · subst hji; simp at hl
          · rw [if_neg hji] at hl; exact hI.fact j hj hl
        · rw [hset] at hl
          by_cases hji : j = i
          · subst hji
            rw [hdst] at hd
            rw [hd, put_some, St.set_t, if_pos rfl]
            exact (hv d hd).symm
          · rw [if_neg hji] at hl
            rw [put_t (fun e => F.dist j i d hji hd (by rw [hdst, e]))]
            exact hI.hb j hj hl d hd
        · rw [put_t (fun e => ht i (by rw [hdst, e]))]
          exact hI.hc t ht
        · rw [hset, if_neg (hneT j hj)] at hl
          rw [put_t (fun e => F.dist j i d (hneT j hj) hd (by rw [hdst, e]))]
          exact hI.st _ _ _ _ (hI.hR j hj hl d hd) hw'
        · have hji : j ≠ i := fun e => hiT (by simp [← e, hj])
          rw [hset, if_neg hji]
          exact hI.un j hj
        · rcases hI.opn with ⟨j, hj, hl⟩ | h
          · exact .inl ⟨j, hj, by rw [hset, if_neg (hneT j hj)]; exact hl⟩
          · exact .inr h
      obtain ⟨o', ho', hf⟩ := hI.fact i hD h0
      rw [ho] at ho'; cases ho'
      rcases hf with ⟨hwt, v, hv, hdv⟩ | ⟨hwf, hdv⟩
      · rw [← hwn, if_pos hwt]
        exact runG_opW (hv w hI.ext) hsem fun u w' hw' hu => by subst hu; exact hnext u w' hdv hw'
      · rw [← hwn, if_neg (by simp [hwf])]
        exact hnext undef w hdv (.refl _ _)
    · rcases List.mem_append.1 hTR with hT | hR
      · -- one of the group
        have hLT : L = (done ++ T) ++ flatS rest := by rw [hI.fl]; simp
        have hnd : ∀ j ∈ done, j ≠ i := fun j hj e => hnot done _ hI.fl (e ▸ hj) (by simp [hT])
        have hslot : ∀ (s' : St) j d, dstOf ops j = some d → slotv ops s' j = s'.t d := fun s' j d h => by simp [slotv, h]
        have hlook : ∀ t ∈ o.looksAt ops, (fillv ops T sT (slotv ops s)).t t = s.t t := fun t ht => by
          by_cases hx : ∃ j, dstOf ops j = some t
          · obtain ⟨j, hj⟩ := hx
            obtain ⟨h1, h2⟩ := hwr (done ++ T) _ hLT (by simp [hT]) t j ⟨o, ho, ht⟩ hj
            by_cases hjT : j ∈ T
            · rw [fillv_at F.dist T sT _ j t hjT hj, hslot s j t hj]
            · have hjd : j ∈ done := (List.mem_append.1 h1).resolve_right hjT
              rw [fillv_other T sT _ t fun k hk => F.dist j k t (fun e => hjT (e ▸ hk)) hj]
              exact (hI.hb j hjd h2 t hj).symm
          · rw [fillv_other T sT _ t fun k _ hk => hx ⟨k, hk⟩]
            exact (hI.hc t fun j hj => hx ⟨j, hj⟩).symm
        obtain ⟨hprem, -⟩ := hI.cont (slotv ops s)
        have hdT : ∀ j ∈ T, ∃ d, dstOf ops j = some d := fun j hj => by
          have := hprem j hj
          unfold Prem at this
          cases hoj : ops[j]? with
          | none => rw [hoj] at this; exact this.elim
          | some oj =>
            rw [hoj] at this
            obtain ⟨d, hd⟩ := Option.isSome_iff_exists.1 this.1
            exact ⟨d, by simp [dstOf, hoj, hd]⟩
        have hpi := hprem i hT
        unfold Prem at hpi
        rw [ho] at hpi
        simp only at hpi
        obtain ⟨hsome, hwt, hrun⟩ := hpi
        obtain ⟨di, hdi⟩ := Option.isSome_iff_exists.1 hsome
        have hsem : o.semAt r (rd n (fillv ops T sT (slotv ops s))) = o.semAt r (rd n s) := semAt_congr ops (F.plain i o ho) hlook
        have hwn : Region.wanted o (yieldedE ops n (fillv ops T sT (slotv ops s))) = Region.wanted o (yieldedE ops n s) := wanted_congr ops hlook
        rw [← hwn, if_pos hwt]
        refine runG_opW (hrun w hI.ext fun j hj ha => ?_) hsem fun u w' hw' hRu => ?_
        · obtain ⟨d, hd⟩ := hdT j hj
          rw [hslot s j d hd]
          exact hI.hR j hj (reach_listed hI.dc i j ha hpre') d hd
        · have hput : ∀ t, o.dst ≠ some t → (s.put o.dst u).t t = s.t t := fun t ht => put_t ht
          have hunr : ∀ j ∈ flatS rest, (listed.setIfInBounds i true).getD j false = false := fun j hj => by
            have hji : j ≠ i := fun e => hnot (done ++ T) _ hLT (by simp [hT]) (e ▸ hj)
            rw [hset, if_neg hji]
            exact hI.un j hj
          have hR' : ∀ j ∈ T, (listed.setIfInBounds i true).getD j false = true → ∀ d, dstOf ops j = some d → R j ((s.put o.dst u).t d) w' := fun j hj hl d hd => by
            by_cases hji : j = i
            · subst hji
              rw [hdst] at hd
              rw [hd, put_some, St.set_t, if_pos rfl]
              exact hRu
            · rw [hset, if_neg hji] at hl
              rw [hput d (fun e => F.dist j i d hji hd (by rw [hdst, e]))]
              exact hI.st _ _ _ _ (hI.hR j hj hl d hd) hw'
          have hb' : ∀ j ∈ done, (listed.setIfInBounds i true).getD j false = true → ∀ d, dstOf ops j = some d → (s.put o.dst u).t d = sT.t d := fun j hj hl d hd => by
            rw [hset, if_neg (hnd j hj)] at hl
            rw [hput d (fun e => F.dist j i d (hnd j hj) hd (by rw [hdst, e]))]
            exact hI.hb j hj hl d hd
          have hf' : ∀ j ∈ done, (listed.setIfInBounds i true).getD j false = false → FactX P r n ops w0 sT j := fun j hj hl => by
            rw [hset, if_neg (hnd j hj)] at hl
            exact hI.fact j hj hl
          have hc' : ∀ t, (∀ j, dstOf ops j ≠ some t) → (s.put o.dst u).t t = sT.t t := fun t ht => by
            rw [hput t (fun e => ht i (by rw [hdst, e]))]
            exact hI.hc t ht
          have hd' : (s.put o.dst u).d = sT.d := by rw [put_d]; exact hI.hd
          by_cases hall : ∀ j ∈ T, (listed.setIfInBounds i true).getD j false = true
          · have hS := (hI.cont (slotv ops (s.put o.dst u))).2 w' (hI.ext.trans hw') fun j hj => by
              obtain ⟨d, hd⟩ := hdT j hj
              rw [hslot _ j d hd]
              exact hR' j hj (hall j hj) d hd
            have hfo : ∀ j ∈ done, ∀ t, (Look ops j t ∨ dstOf ops j = some t) → sT.t t = (fillv ops T sT (slotv ops (s.put o.dst u))).t t := fun j hj t ht =>
              (fillv_other T sT _ t fun k hk => later_slots F hI.fl hj ht k (by simp [hk])).symm
            obtain ⟨done', T', rest', w0', R', sT', hI'⟩ := grow_adv (K := K) F rest (done ++ T) w' _ (listed.setIfInBounds i true) (s.put o.dst u) w' hsz' hdc' hLT hI.os hS (.refl _ _)
              (fun j hj hl => by
                rcases List.mem_append.1 hj with hj | hj
                · exact factX_congr F (hf' j hj hl) (hI.ext.trans hw') (fun t ht => hfo j hj t (.inl ht)) (fun d hd => hfo j hj d (.inr hd))
                · rw [hall j hj] at hl; cases hl)
              (fun j hj hl d hd => by
                rcases List.mem_append.1 hj with hj | hj
                · rw [← hfo j hj d (.inr hd)]; exact hb' j hj hl d hd
                · rw [fillv_at F.dist T sT _ j d hj hd, hslot _ j d hd])
              (fun t ht => by rw [fillv_other T sT _ t fun k _ => ht k]; exact hc' t ht) (by rw [fillv_d]; exact hd') hunr
            exact ih _ _ _ done' T' rest' w0' R' sT' hu' hI'
          · have : ∃ j ∈ T, (listed.setIfInBounds i true).getD j false = false := by
              apply Classical.byContradiction
              intro hn
              exact hall fun j hj => by
                cases hx : (listed.setIfInBounds i true).getD j false
                · exact absurd ⟨j, hj, hx⟩ hn
                · rfl
            exact ih _ _ _ done T rest w0 R sT hu' ⟨hsz', hdc', hI.fl, hI.ext.trans hw', hf', hb', hc', hd', hR', hunr, hI.st, hI.cont, .inl this, hI.od, hI.os⟩
      · -- none of the later ones can come
        exfalso
        rcases hI.opn with ⟨j, hj, hl⟩ | ⟨-, rfl⟩
        · have := reach_listed hI.dc i j (hI.od i hR j hj) hpre'
          rw [hl] at this
          cases this
        · simp [flatS] at hR

theorem any_grow {s : St} {w : World} (segs : List (List Nat × List Nat)) (h : SegG P r n ops K segs w s) (hX : ∀ c s s' w, X c s w → X c s' w) (hchk : growOk ops segs = true) : ∀ w', To w w' w.heap → AnyO P r n ops K X ops.size (Array.replicate ops.size false) s w' := by
  simp only [growOk, Bool.and_eq_true] at hchk
  have F := regFacts hchk.1
  intro w' hw'
  have hn : ∀ j, (Array.replicate ops.size false).getD j false = false := fun j => by simp [Array.getD]
  obtain ⟨done', T', rest', w0', R', sT', hI'⟩ := grow_adv (K := K) F segs [] w s (Array.replicate ops.size false) s w' (by simp) (fun i o hi => by rw [hn] at hi; cases hi) rfl hchk.2 h (Upd.of_heap hw') (fun _ h => nomatch h) (fun _ h => nomatch h) (fun _ _ => rfl) rfl (fun j _ => hn j)
  refine grow_any F hX ops.size _ s w' done' T' rest' w0' R' sT' ?_ hI'
  unfold unl
  exact Nat.le_trans (List.length_filter_le _ _) (by simp)
end

section
variable {K : St → World → Prop} {Q : Ex} {s : St} {w : World}
theorem wk_grow {id : Nat} {ol : List Oper} (segs : List (List Nat × List Nat)) (h : SegG P r n ol.toArray K segs w s) (hX : ∀ c s s' w, Q (.panic c) s w → Q (.panic c) s' w := by intro _ _ _ _ h; first | exact h | (simp only [BlockK, NoGoto, RetQ] at h)) (hm : P.follows .mixedOrders = true := by rfl)
    (hchk : growOk ol.toArray segs = true := by kernel_rfl) : WK P r n (.region id ol.toArray true) K Q s w := by
  unfold WK
  exact w_region_any hm (any_grow segs h hX hchk)
end

section
variable {ops : Array Oper} {w0 : World} {K : St → Prop} {i : Nat} {l : List Nat} {s : St} {k : Nat} {op : Op} {ty : TypeId} {p : String} {af : Array Edge} {g : Option (Nat × Bool)}
theorem x_nil (h : K s) : OpsX P r n ops w0 K [] s := h
theorem x_gen {v : Value} (ho : ops[i]? = some ⟨some k, op, ty, p, af, g⟩) (hw : Region.wanted ⟨some k, op, ty, p, af, g⟩ (yieldedE ops n s) = true) (h : YldG P r n w0 ⟨some k, op, ty, p, af, g⟩ s v) (hk : OpsX P r n ops w0 K l (s.set k v)) : OpsX P r n ops w0 K (i :: l) s := by
  simp only [OpsX, ho, hw, if_true]
  exact ⟨v, h, hk⟩
theorem runG_val {v : Value} {w w' : World} {o : Oper} {R : Value → World → Prop} (h : (o.semAt r (rd n s)).run P w = .ok (.value v) w') (he : Ext w w') (hR : R v w') : RunG P r n o s w R := by
  unfold RunG OpW
  rw [h]
  exact ⟨v, rfl, he, hR⟩
theorem runG_call {f : FuncId} {args : Array Value} {w : World} {o : Oper} {R : Value → World → Prop} (h : (o.semAt r (rd n s)).run P w = .ok (.enter f args) w) (hc : Calls P f args w (fun e w' => ∃ u, e = .returned u ∧ R u w' ∧ Ext w w')) : RunG P r n o s w R := by
  unfold RunG OpW
  rw [h]
  refine hc.mono ?_
  rintro e w' ⟨u, rfl, h1, h2⟩
  exact ⟨u, rfl, h2, h1⟩
theorem x_pur {v : Value} (ho : ops[i]? = some ⟨some k, op, ty, p, af, g⟩) (hw : Region.wanted ⟨some k, op, ty, p, af, g⟩ (yieldedE ops n s) = true) (h : ∀ w, (Oper.semAt r (rd n s) ⟨some k, op, ty, p, af, g⟩).run P w = .ok (.value v) w) (hk : OpsX P r n ops w0 K l (s.set k v)) : OpsX P r n ops w0 K (i :: l) s :=
  x_gen ho hw (fun w _ => runG_val (h w) (.refl _ _) rfl) hk
theorem x_val {v : Value} (ho : ops[i]? = some ⟨some k, op, ty, p, af, g⟩) (hw : Region.wanted ⟨some k, op, ty, p, af, g⟩ (yieldedE ops n s) = true) (h : ∀ w, Ext w0 w → (Oper.semAt r (rd n s) ⟨some k, op, ty, p, af, g⟩).run P w = .ok (.value v) w) (hk : OpsX P r n ops w0 K l (s.set k v)) : OpsX P r n ops w0 K (i :: l) s :=
  x_gen ho hw (fun w hw' => runG_val (h w hw') (.refl _ _) rfl) hk
theorem x_mov {x : Operand} {v : Value} (hk : OpsX P r n ops w0 K l (s.set k v)) (ho : ops[i]? = some ⟨some k, .move x, ty, p, af, g⟩ := by rfl) (hw : Region.wanted ⟨some k, .move x, ty, p, af, g⟩ (yieldedE ops n s) = true := by rfl) (hx : rd n s x = v := by conv => lhs; whnf) : OpsX P r n ops w0 K (i :: l) s := x_pur ho hw (fun _ => r_mov hx) hk
theorem x_asg {x : Operand} {v : Value} (hk : OpsX P r n ops w0 K l (s.set k v)) (ho : ops[i]? = some ⟨some k, .assign x, ty, p, af, g⟩ := by rfl) (hw : Region.wanted ⟨some k, .assign x, ty, p, af, g⟩ (yieldedE ops n s) = true := by rfl) (hx : rd n s x = v := by conv => lhs; whnf) : OpsX P r n ops w0 K (i :: l) s := x_pur ho hw (fun _ => r_asg hx) hk
theorem x_fa {st f off b o o' : Nat} {x : Operand} (hk : OpsX P r n ops w0 K l (s.set k (.pointer (some ⟨b, o', none⟩)))) (ho : ops[i]? = some ⟨some k, .fieldAddr st x f, ty, p, af, g⟩ := by rfl) (hw : Region.wanted ⟨some k, .fieldAddr st x f, ty, p, af, g⟩ (yieldedE ops n s) = true := by rfl) (hx : rd n s x = .pointer (some ⟨b, o, none⟩) := by rfl) (hf : fieldT P st f = some off := by conv => lhs; whnf; arg 1; whnf)
    (hoo : o + off = o' := by first | (conv => lhs; simp only [Nat.reduceAdd, Nat.zero_add, Nat.add_zero]) | rfl) : OpsX P r n ops w0 K (i :: l) s := x_pur ho hw (fun _ => r_fa2 hx hf hoo) hk
theorem x_row {t : TypeId} {x : Operand} {b o ad : Nat} {v : Value} {vs : List Value} (h : ∀ w, Ext w0 w → Row w b o vs) (hk : OpsX P r n ops w0 K l (s.set k v)) (ho : ops[i]? = some ⟨some k, .load t x, ty, p, af, g⟩ := by rfl) (hw : Region.wanted ⟨some k, .load t x, ty, p, af, g⟩ (yieldedE ops n s) = true := by rfl) (hA : aggT P t = some false := by rfl) (hx : rd n s x = .pointer (some ⟨b, ad, none⟩) := by rfl)
    (hj : ∃ j, ad = o + j ∧ vs[j]? = some v := by first | exact ⟨0, rfl, rfl⟩ | exact ⟨1, rfl, rfl⟩ | exact ⟨2, rfl, rfl⟩ | exact ⟨3, rfl, rfl⟩ | exact ⟨4, rfl, rfl⟩ | exact ⟨5, rfl, rfl⟩ | exact ⟨6, rfl, rfl⟩ | exact ⟨7, rfl, rfl⟩ | exact ⟨8, rfl, rfl⟩) : OpsX P r n ops w0 K (i :: l) s := by
  obtain ⟨j, rfl, h2⟩ := hj
  exact x_val ho hw (fun w hw => r_load hA hx (h w hw j v h2)) hk
theorem x_all {t : TypeId} {x : Operand} {b o : Nat} {vs : List Value} (h : ∀ w, Ext w0 w → Row w b o vs) (hk : OpsX P r n ops w0 K l (s.set k (.agg vs.toArray))) (ho : ops[i]? = some ⟨some k, .load t x, ty, p, af, g⟩ := by rfl) (hw : Region.wanted ⟨some k, .load t x, ty, p, af, g⟩ (yieldedE ops n s) = true := by rfl) (hA : aggT P t = some true := by rfl) (hs : sizeT P t = some vs.length := by rfl) (hx : rd n s x = .pointer (some ⟨b, o, none⟩) := by rfl) :
    OpsX P r n ops w0 K (i :: l) s := x_val ho hw (fun w hw => r_loadN hA hs hx (h w hw)) hk
theorem x_fn {f : FuncId} {xs : Array Operand} {ats : Array TypeId} {args : Array Value} {v : Value} (hc : ∀ w, Ext w0 w → Calls P f args w (fun e w' => ∃ x, e = .returned x ∧ x = v ∧ Ext w w')) (hk : OpsX P r n ops w0 K l (s.set k v)) (ho : ops[i]? = some ⟨some k, .call ⟨.value (.func f), xs, ats⟩, ty, p, af, g⟩ := by rfl)
    (hw : Region.wanted ⟨some k, .call ⟨.value (.func f), xs, ats⟩, ty, p, af, g⟩ (yieldedE ops n s) = true := by rfl) (hen : ∀ w, (callFunc f args).run P w = .ok (.enter f args) w := by intro _; rfl) (hargs : xs.toList.map (rd n s) = args.toList := by rfl) : OpsX P r n ops w0 K (i :: l) s :=
  x_gen ho hw (fun w hw' => runG_call (run_callOp hargs (hen w)) (hc w hw')) hk
/-! ### Groups -/
variable {T : List Nat} {R : Nat → Value → World → Prop} {vs : Nat → Value} {o : Oper}
theorem p_walk (ho : ops[i]? = some o) (hd : o.dst.isSome = true) (hw : Region.wanted o (yieldedE ops n s) = true) (h : ∀ w, Ext w0 w → (∀ j ∈ T, reachB ops i j = true → R j (vs j) w) → OpsL P r n ops (fun s' w' => ∃ u, s' = s.put o.dst u ∧ Ext w w' ∧ R i u w') (fun _ _ _ => False) [o] s w) : Prem P r n ops T w0 R s vs i := by
  unfold Prem
  rw [ho]
  refine ⟨hd, hw, fun w hw' hR => ?_⟩
  have h1 := h w hw' hR
  simp only [OpsL, hw, if_true] at h1
  exact h1
theorem p_fn {f : FuncId} {xs : Array Operand} {ats : Array TypeId} {args : Array Value} (hc : ∀ w, Ext w0 w → (∀ j ∈ T, reachB ops i j = true → R j (vs j) w) → Calls P f args w (fun e w' => ∃ x, e = .returned x ∧ R i x w' ∧ Ext w w')) (ho : ops[i]? = some ⟨some k, .call ⟨.value (.func f), xs, ats⟩, ty, p, af, g⟩ := by rfl)
    (hw : Region.wanted ⟨some k, .call ⟨.value (.func f), xs, ats⟩, ty, p, af, g⟩ (yieldedE ops n s) = true := by rfl) (hen : ∀ w, (callFunc f args).run P w = .ok (.enter f args) w := by intro _; rfl) (hargs : xs.toList.map (rd n s) = args.toList := by rfl) : Prem P r n ops T w0 R s vs i := by
  unfold Prem
  rw [ho]
  exact ⟨rfl, hw, fun w hw' hR => runG_call (run_callOp hargs (hen w)) (hc w hw' hR)⟩
end

section
variable {ops : Array Oper} {w0 : World} {K : St → World → Prop} {s sT : St} {H T : List Nat} {l : List (List Nat × List Nat)}
theorem seg_cons {k : St → Prop} (h : OpsX P r n ops w0 k H s) (hk : ∀ sT, k sT → ∃ R : Nat → Value → World → Prop, (∀ i v w w', R i v w → Ext w w' → R i v w') ∧
      ∀ vs : Nat → Value, (∀ i ∈ T, Prem P r n ops T w0 R (fillv ops T sT vs) vs i) ∧ ∀ w1, Ext w0 w1 → (∀ i ∈ T, R i (vs i) w1) → SegG P r n ops K l w1 (fillv ops T sT vs)) : SegG P r n ops K ((H, T) :: l) w0 s := by
  unfold SegG
  exact opsX_mono hk h
where
  opsX_mono {ops : Array Oper} {w0 : World} {k k' : St → Prop} (hk : ∀ s, k s → k' s) : ∀ {l : List Nat} {s : St}, OpsX P r n ops w0 k l s → OpsX P r n ops w0 k' l s
    | [], s, h => hk s h
    | i :: l, s, h => by
      simp only [OpsX] at h ⊢
      cases ho : ops[i]? with
      | none => rw [ho] at h; exact h.elim
      | some o =>
        simp only [ho] at h ⊢
        split
        · rename_i hw
          rw [if_pos hw] at h
          obtain ⟨v, h1, h2⟩ := h
          exact ⟨v, h1, opsX_mono hk h2⟩
        · rename_i hw
          rw [if_neg hw] at h
          exact opsX_mono hk h

theorem g_end (h : OpsX P r n ops w0 (fun sT => ∀ w', Ext w0 w' → K sT w') H s) : SegG P r n ops K [(H, [])] w0 s :=
  seg_cons h fun sT hk => ⟨fun _ _ _ => True, fun _ _ _ _ h _ => h, fun vs => ⟨(fun _ h => nomatch h), fun w1 h1 _ => by unfold SegG; exact fun w2 h2 => hk w2 (h1.trans h2)⟩⟩
theorem g_one {t d : Nat} (R : Value → World → Prop) (hst : ∀ v w w', R v w → Ext w w' → R v w')
    (h : OpsX P r n ops w0 (fun sT => (∀ v, Prem P r n ops [t] w0 (fun _ => R) (sT.set d v) (fun _ => v) t) ∧ ∀ v w1, Ext w0 w1 → R v w1 → SegG P r n ops K l w1 (sT.set d v)) H s) (hd : dstOf ops t = some d := by rfl) : SegG P r n ops K ((H, [t]) :: l) w0 s := by
  refine seg_cons h fun sT hk => ⟨fun _ => R, fun _ v w w' h1 h2 => hst v w w' h1 h2, fun vs => ?_⟩
  have he : fillv ops [t] sT vs = sT.set d (vs t) := by show sT.put (dstOf ops t) (vs t) = _; rw [hd]; rfl
  rw [he]
  refine ⟨fun i hi => ?_, fun w1 h1 h2 => hk.2 (vs t) w1 h1 (h2 t (by simp))⟩
  obtain rfl : i = t := by simpa using hi
  have h1 := hk.1 (vs i)
  unfold Prem at h1 ⊢
  cases ho : ops[i]? with
  | none => rw [ho] at h1; exact h1
  | some o =>
    rw [ho] at h1
    refine ⟨h1.1, h1.2.1, fun w hw hR => h1.2.2 w hw fun j hj ha => ?_⟩
    obtain rfl : j = i := by simpa using hj
    exact hR j (by simp) ha
theorem g_two {t1 t2 d1 d2 : Nat} (R1 R2 : Value → World → Prop) (hst1 : ∀ v w w', R1 v w → Ext w w' → R1 v w') (hst2 : ∀ v w w', R2 v w → Ext w w' → R2 v w')
    (h : OpsX P r n ops w0 (fun sT => (∀ v1 v2, Prem P r n ops [t1, t2] w0 (fun i => bif Nat.beq i t1 then R1 else R2) ((sT.set d1 v1).set d2 v2) (fun i => bif Nat.beq i t1 then v1 else v2) t1) ∧
      (∀ v1 v2, Prem P r n ops [t1, t2] w0 (fun i => bif Nat.beq i t1 then R1 else R2) ((sT.set d1 v1).set d2 v2) (fun i => bif Nat.beq i t1 then v1 else v2) t2) ∧
      ∀ v1 v2 w1, Ext w0 w1 → R1 v1 w1 → R2 v2 w1 → SegG P r n ops K l w1 ((sT.set d1 v1).set d2 v2)) H s) (hne : Nat.beq t2 t1 = false := by rfl) (hd1 : dstOf ops t1 = some d1 := by rfl) (hd2 : dstOf ops t2 = some d2 := by rfl) : SegG P r n ops K ((H, [t1, t2]) :: l) w0 s := by
  have e1 : ∀ {α : Type} (a b : α), (bif Nat.beq t1 t1 then a else b) = a := fun a b => by simp
  have e2 : ∀ {α : Type} (a b : α), (bif Nat.beq t2 t1 then a else b) = b := fun a b => by rw [hne]; rfl
  refine seg_cons h fun sT hk => ⟨fun i => bif Nat.beq i t1 then R1 else R2, fun i v w w' h1 h2 => ?_, fun vs => ?_⟩
  · cases hb : Nat.beq i t1
    · simp only [hb, cond_false] at h1 ⊢
      exact hst2 v w w' h1 h2
    · simp only [hb, cond_true] at h1 ⊢
      exact hst1 v w w' h1 h2
  have he : fillv ops [t1, t2] sT vs = (sT.set d1 (vs t1)).set d2 (vs t2) := by
    show (sT.put (dstOf ops t1) (vs t1)).put (dstOf ops t2) (vs t2) = _
    rw [hd1, hd2]; rfl
  rw [he]
  have conv : ∀ i, i = t1 ∨ i = t2 → Prem P r n ops [t1, t2] w0 (fun i => bif Nat.beq i t1 then R1 else R2) ((sT.set d1 (vs t1)).set d2 (vs t2)) (fun i => bif Nat.beq i t1 then vs t1 else vs t2) i → Prem P r n ops [t1, t2] w0 (fun i => bif Nat.beq i t1 then R1 else R2) ((sT.set d1 (vs t1)).set d2 (vs t2)) vs i := by
    intro i _ h1
    unfold Prem at h1 ⊢
    cases ho : ops[i]? with
    | none => rw [ho] at h1; exact h1
    | some o =>
      rw [ho] at h1
      refine ⟨h1.1, h1.2.1, fun w hw hR => h1.2.2 w hw fun j hj ha => ?_⟩
      have h2 := hR j hj ha
      rcases List.mem_cons.1 hj with rfl | hj
      · simp only [e1] at h2 ⊢; exact h2
      · obtain rfl : j = t2 := by simpa using hj
        simp only [e2] at h2 ⊢; exact h2
  refine ⟨fun i hi => ?_, fun w1 h1 h2 => hk.2.2 (vs t1) (vs t2) w1 h1 ?_ ?_⟩
  · rcases List.mem_cons.1 hi with rfl | hi
    · exact conv _ (.inl rfl) (hk.1 _ _)
    · obtain rfl : i = t2 := by simpa using hi
      exact conv _ (.inr rfl) (hk.2.1 _ _)
  · have := h2 t1 (by simp); simp only [e1] at this; exact this
  · have := h2 t2 (by simp); simp only [e2] at this; exact this
end
end Go.Pd

/-
  Slices cut on one side, within regions that draw their order: the value does not depend on the world.
-/
set_option linter.unusedSimpArgs false
set_option linter.unnecessarySimpa false
set_option maxRecDepth 10000
set_option linter.unusedVariables false
namespace Go.Pd
variable {P : Program} {r : Option Nat} {n : Nat}

end Go.Pd

/-
  Drawn regions that build: structures, slices.
-/
set_option linter.unusedSimpArgs false
set_option linter.unnecessarySimpa false
set_option maxRecDepth 10000
set_option linter.unusedVariables false
namespace Go.Pd
variable {P : Program} {r : Option Nat} {n : Nat}
section
variable {ops : Array Oper} {w0 : World} {K : St → Prop} {i : Nat} {l : List Nat} {s : St} {k : Nat} {ty : TypeId} {p : String} {af : Array Edge} {g : Option (Nat × Bool)}
theorem q_build {E : List Nat} {C C2 : World → Prop} {t : TypeId} {parts : Array (Nat × Operand)} (cs : List Value) (ho : ops[i]? = some ⟨some k, .build t parts, ty, p, af, g⟩) (hw : Region.wanted ⟨some k, .build t parts, ty, p, af, g⟩ (yieldedE ops n s) = true) (hb : buildC P t (parts.toList.map fun x => (x.1, rd n s x.2)) = some cs.toArray)
    (hk : OpsQ P r n ops E C C2 K l (s.set k (.agg cs.toArray))) : OpsQ P r n ops E C C2 K (i :: l) s := q_pur ho hw (by rfl) (fun _ => r_build cs hb) hk
end
end Go.Pd

/-
  Calls that may panic, and functions that do.
-/
set_option linter.unusedVariables false
set_option linter.unusedSimpArgs false
set_option linter.unnecessarySimpa false
set_option maxRecDepth 10000
namespace Go.Pd
variable {P : Program} {r : Option Nat} {n : Nat}
end Go.Pd
