/-
  The runs of single operations as equations (made by genrun.py off the lemmas 'o_..'); quiet steps in regions that draw their order.
-/
import Derived.Test.YtjijmehighoonaaDoorOrd
import Derived.Test.YtjijmehighoonaaDoorStr
set_option linter.unusedSimpArgs false
set_option linter.unnecessarySimpa false
set_option maxRecDepth 10000
set_option linter.unusedVariables false
namespace Go.Pd
variable {P : Program} {r : Option Nat} {n : Nat}
section
variable {s : St} {w : World} {ty : TypeId} {p : String} {af : Array Edge} {g : Option (Nat × Bool)}
variable {bo : BinOp} {uo : UnOp} {x y : Operand} {a b : Int} {v : Value} {xt yt : TypeId} {kk : IntKind} {k d : Nat}

theorem r_mov {x : Operand} {v : Value}  (hx : rd n s x = v) : (Oper.semAt r (rd n s) ⟨some k, .move x, ty, p, af, g⟩).run P w = .ok (.value (v)) w := by
  subst hx
  rw [Oper.semAt_eq _ _ _ (fun c e => by cases e)]
  rfl

theorem r_asg {x : Operand} {v : Value}  (hx : rd n s x = v) : (Oper.semAt r (rd n s) ⟨some k, .assign x, ty, p, af, g⟩).run P w = .ok (.value (v)) w := by
  subst hx
  rw [Oper.semAt_eq _ _ _ (fun c e => by cases e)]
  rfl

theorem r_pick {c a b : Operand} {t : Bool} {v u : Value}  (hc : rd n s c = .bool t) (ha : rd n s a = v) (hb : rd n s b = u) : (Oper.semAt r (rd n s) ⟨some k, .pick c a b, ty, p, af, g⟩).run P w = .ok (.value ((bif t then v else u))) w := by
  subst ha hb
  rw [Oper.semAt_eq _ _ _ (fun c e => by cases e)]
  simp only [execOp, hc, asBool]
  cases t <;> rfl

theorem r_ext {x : Operand} {i : Nat} {vs : Array Value} {v : Value}  (hx : rd n s x = .tuple vs) (hv : vs[i]? = some v) : (Oper.semAt r (rd n s) ⟨some k, .extract x i, ty, p, af, g⟩).run P w = .ok (.value (v)) w := by
  rw [Oper.semAt_eq _ _ _ (fun c e => by cases e)]
  simp only [execOp, hx, Instr.extract, hv]
  rfl

theorem r_nilc {x : Operand} {a : Addr}  (hx : rd n s x = .pointer (some a)) : (Oper.semAt r (rd n s) ⟨some k, .nilCheck x, ty, p, af, g⟩).run P w = .ok (.value ((.pointer (some a)))) w := by
  rw [Oper.semAt_eq _ _ _ (fun c e => by cases e)]
  simp only [execOp, hx]
  rfl

theorem r_nilf {x : Operand} {f : FuncId} {fi ca : Array Value}  (hx : rd n s x = .func (.func f) fi ca) : (Oper.semAt r (rd n s) ⟨some k, .nilCheck x, ty, p, af, g⟩).run P w = .ok (.value ((.func (.func f) fi ca))) w := by
  rw [Oper.semAt_eq _ _ _ (fun c e => by cases e)]
  simp only [execOp, hx]
  rfl

theorem r_binI  (hx : rd n s x = .int kk a) (hy : rd n s y = .int kk b) (hv : binI bo kk a b = some v) : (Oper.semAt r (rd n s) ⟨some k, .binOp bo xt x y yt, ty, p, af, g⟩).run P w = .ok (.value (v)) w := by
  rw [Oper.semAt_eq _ _ _ (fun c e => by cases e)]
  cases bo <;> simp only [binI, Option.some.injEq, reduceCtorEq] at hv <;> subst hv <;> simp [execOp, hx, hy, eqGuard, binOp, Op.intArith, Op.intCmp, bind, Sem.bind, pure, Sem.run, BEq.beq, bne, decide_not]

theorem r_notb {b : Bool}  (hx : rd n s x = .bool b) : (Oper.semAt r (rd n s) ⟨some k, .unOp .not xt x, ty, p, af, g⟩).run P w = .ok (.value ((.bool (!b)))) w := by
  rw [Oper.semAt_eq _ _ _ (fun c e => by cases e)]
  simp only [execOp, hx, Op.unary]
  rfl

theorem r_mf {fn : Fn} {fi ca : Array Operand} (vf vc : List Value)  (hf : fi.toList.map (rd n s) = vf) (hc : ca.toList.map (rd n s) = vc) : (Oper.semAt r (rd n s) ⟨some k, .makeFunc fn fi ca, ty, p, af, g⟩).run P w = .ok (.value ((.func fn vf.toArray vc.toArray))) w := by
  have e1 : fi.map (rd n s) = vf.toArray := Array.ext' (by simpa using hf)
  have e2 : ca.map (rd n s) = vc.toArray := Array.ext' (by simpa using hc)
  rw [Oper.semAt_eq _ _ _ (fun c e => by cases e)]
  simp only [execOp, e1, e2]
  rfl

theorem r_load {t : TypeId} {x : Operand} {a : Addr} {v : Value}  (hA : aggT P t = some false) (hx : rd n s x = .pointer (some a)) (hc : w.cell? a = some v) : (Oper.semAt r (rd n s) ⟨some d, .load t x, ty, p, af, g⟩).run P w = .ok (.value (v)) w := by
  rw [Oper.semAt_eq _ _ _ (fun c e => by cases e)]
  simp only [execOp, Instr.loadAt, hx, Instr.sureAddr]
  rw [sem_bind (a := v) (w' := w)]
  · rfl
  · rw [sem_bind (a := a) (w' := w) rfl]; exact run_loadVar1 hA hc

theorem r_fa {st f off b o : Nat} {x : Operand}  (hx : rd n s x = .pointer (some ⟨b, o, none⟩)) (hf : fieldT P st f = some off) : (Oper.semAt r (rd n s) ⟨some d, .fieldAddr st x f, ty, p, af, g⟩).run P w = .ok (.value ((.pointer (some ⟨b, o + off, none⟩)))) w := by
  rw [Oper.semAt_eq _ _ _ (fun c e => by cases e)]
  simp only [execOp, hx]
  rw [sem_bind (run_fieldAt hf w)]
  rfl

theorem r_loadN {t : TypeId} {x : Operand} {b o : Nat} {vs : List Value}  (hA : aggT P t = some true) (hs : sizeT P t = some vs.length) (hx : rd n s x = .pointer (some ⟨b, o, none⟩)) (hc : Row w b o vs) : (Oper.semAt r (rd n s) ⟨some d, .load t x, ty, p, af, g⟩).run P w = .ok (.value ((.agg vs.toArray))) w := by
  rw [Oper.semAt_eq _ _ _ (fun c e => by cases e)]
  simp only [execOp, Instr.loadAt, hx, Instr.sureAddr]
  rw [sem_bind (a := .agg vs.toArray) (w' := w)]
  · rfl
  · rw [sem_bind (a := ⟨b, o, none⟩) (w' := w) rfl]; exact run_loadVarN hA hs hc

theorem r_indexAddr {t e k m c : Nat} {x ix : Operand} {kk : IntKind} {i : Int} {a : Option Addr} {b o : Nat} (j : Nat) (ha : a = some ⟨b, o, none⟩) (hj : j < m)  (hu : P.underlying t = some (.slice e)) (hs : sizeT P e = some k)
    (hx : rd n s x = .slice a m c) (hix : rd n s ix = .int kk i) (hi : i = (j : Int)) : (Oper.semAt r (rd n s) ⟨some d, .indexAddr t x ix, ty, p, af, g⟩).run P w = .ok (.value ((.pointer (some ⟨b, o + j * k, none⟩)))) w := by
  subst ha
  rw [Oper.semAt_eq _ _ _ (fun c e => by cases e)]
  simp only [execOp, hx, hix]
  rw [sem_bind (run_indexAt_slice hu hs hi hj w)]
  rfl

theorem r_index {t : Nat} {x ix : Operand} {kk : IntKind} {i : Int} {bs : List UInt8} (j : Nat) {c : UInt8}  (hu : P.underlying t = some .string)
    (hx : rd n s x = str bs) (hix : rd n s ix = .int kk i) (hi : i = (j : Int)) (hj : bs[j]? = some c) : (Oper.semAt r (rd n s) ⟨some d, .index t x ix, ty, p, af, g⟩).run P w = .ok (.value ((.int .u8 (c.toNat : Int)))) w := by
  rw [Oper.semAt_eq _ _ _ (fun c e => by cases e)]
  subst hi
  simp only [execOp, hx, hix, str_eq]
  rw [sem_bind (a := .int .u8 (c.toNat : Int)) (w' := w)]
  · rfl
  · unfold Instr.index
    rw [sem_bind (a := (kk, (j : Int))) (w' := w) rfl]
    simp only
    rw [sem_bind (run_underlying' hu w)]
    have h1 : (⟨bs.toArray⟩ : ByteArray)[j]? = some c := by
      have hlt : j < bs.length := (List.getElem?_eq_some_iff.1 hj).1
      rw [getElem?_pos _ _ (by simpa [ByteArray.size] using hlt)]
      have h2 : bs[j] = c := (List.getElem?_eq_some_iff.1 hj).2
      congr 1
    simp only [show (0 : Int) ≤ (j : Int) from by omega, if_true, Int.toNat_natCast, h1]
    rfl

theorem r_eqs {t yt : Nat} {x y : Operand} {a b : List UInt8}  (hx : rd n s x = str a) (hy : rd n s y = str b) : (Oper.semAt r (rd n s) ⟨some d, .binOp .eql t x y yt, ty, p, af, g⟩).run P w = .ok (.value ((.bool (decide (a = b))))) w := by
  rw [Oper.semAt_eq _ _ _ (fun c e => by cases e)]
  simp only [execOp, hx, hy, str_eq, eqGuard, binOp, Op.stringOp, toList_mk]
  simp [bind, Sem.bind, pure, Sem.run]
  by_cases h : a = b <;> simp [h]

theorem r_nes {t yt : Nat} {x y : Operand} {a b : List UInt8}  (hx : rd n s x = str a) (hy : rd n s y = str b) : (Oper.semAt r (rd n s) ⟨some d, .binOp .neq t x y yt, ty, p, af, g⟩).run P w = .ok (.value ((.bool (decide (a ≠ b))))) w := by
  rw [Oper.semAt_eq _ _ _ (fun c e => by cases e)]
  simp only [execOp, hx, hy, str_eq, eqGuard, binOp, Op.stringOp, toList_mk]
  simp [bind, Sem.bind, pure, Sem.run]
  by_cases h : a = b <;> simp [h]

theorem r_lens {at_ : Array TypeId} {x : Operand} {a : List UInt8}  (hu : (at_[0]?).bind P.underlying = some .string) (hx : rd n s x = str a) : (Oper.semAt r (rd n s) ⟨some d, .call ⟨.builtin .len, #[x], at_⟩, ty, p, af, g⟩).run P w = .ok (.value ((.int .i64 (a.length : Int)))) w := by
  rw [Oper.semAt_eq _ _ _ (fun c e => by cases e)]
  cases ha : at_[0]? with
  | none => rw [ha] at hu; cases hu
  | some t =>
    rw [ha] at hu
    simp only [Option.bind_some] at hu
    simp only [execOp, resolve, List.map_toArray, List.map_cons, List.map_nil, hx, str_eq]
    rw [sem_bind (w' := w) rfl]
    simp only [invoke, builtin, Builtin.len_, ha]
    simp [sem_bind (run_underlying' hu w), size_mk, bind, Sem.bind, pure, Sem.run, underlying, program, hu, goInt]

theorem r_lenv {at_ : Array TypeId} {x : Operand} {e m c : Nat} {a : Option Addr}  (hu : (at_[0]?).bind P.underlying = some (.slice e)) (hx : rd n s x = .slice a m c) : (Oper.semAt r (rd n s) ⟨some d, .call ⟨.builtin .len, #[x], at_⟩, ty, p, af, g⟩).run P w = .ok (.value ((.int .i64 (m : Int)))) w := by
  rw [Oper.semAt_eq _ _ _ (fun c e => by cases e)]
  cases ha : at_[0]? with
  | none => rw [ha] at hu; cases hu
  | some t =>
    rw [ha] at hu
    simp only [Option.bind_some] at hu
    simp only [execOp, resolve, List.map_toArray, List.map_cons, List.map_nil, hx]
    rw [sem_bind (w' := w) rfl]
    simp only [invoke, builtin, Builtin.len_, ha]
    simp [bind, Sem.bind, pure, Sem.run, underlying, program, hu, goInt]

theorem r_build {t : TypeId} {parts : Array (Nat × Operand)} (cs : List Value)  (hb : buildC P t (parts.toList.map fun x => (x.1, rd n s x.2)) = some cs.toArray) : (Oper.semAt r (rd n s) ⟨some d, .build t parts, ty, p, af, g⟩).run P w = .ok (.value ((.agg cs.toArray))) w := by
  rw [Oper.semAt_eq _ _ _ (fun c e => by cases e)]
  simp only [execOp]
  have h2 : (parts.map fun (i, x) => (i, rd n s x)).toList = parts.toList.map fun x => (x.1, rd n s x.2) := by simp
  rw [sem_bind (run_build (P := P) (cs := cs.toArray) (by rw [h2]; exact hb) w)]
  rfl

theorem r_cut2 {t : Nat} {x lo hi : Operand} {bs : List UInt8} {kk kl : IntKind} {i j : Int} (a b : Nat) (h1 : a ≤ b) (h2 : b ≤ bs.length)  (hu : P.underlying t = some .string)
    (hx : rd n s x = str bs) (hlo : rd n s lo = .int kk i) (hhi : rd n s hi = .int kl j) (hi1 : i = (a : Int)) (hj : j = (b : Int)) : (Oper.semAt r (rd n s) ⟨some d, .slice t x (some lo) (some hi) none, ty, p, af, g⟩).run P w = .ok (.value ((str ((bs.take b).drop a)))) w := by
  rw [Oper.semAt_eq _ _ _ (fun c e => by cases e)]
  simp only [execOp, hx, hlo, hhi, Option.map_some, Option.map_none]
  rw [sem_bind (run_slice_str hu hi1 hj h1 h2 w)]
  rfl

theorem r_cutL {t : Nat} {x lo : Operand} {bs : List UInt8} {kk : IntKind} {i : Int} (a : Nat) (h1 : a ≤ bs.length)  (hu : P.underlying t = some .string)
    (hx : rd n s x = str bs) (hlo : rd n s lo = .int kk i) (hi1 : i = (a : Int)) : (Oper.semAt r (rd n s) ⟨some d, .slice t x (some lo) none none, ty, p, af, g⟩).run P w = .ok (.value ((str (bs.drop a)))) w := by
  rw [Oper.semAt_eq _ _ _ (fun c e => by cases e)]
  simp only [execOp, hx, hlo, Option.map_some, Option.map_none]
  rw [sem_bind (run_slice_str_lo hu hi1 h1 w)]
  rfl

theorem r_cutH {t : Nat} {x hi : Operand} {bs : List UInt8} {kk : IntKind} {i : Int} (a : Nat) (h1 : a ≤ bs.length)  (hu : P.underlying t = some .string)
    (hx : rd n s x = str bs) (hlo : rd n s hi = .int kk i) (hi1 : i = (a : Int)) : (Oper.semAt r (rd n s) ⟨some d, .slice t x none (some hi) none, ty, p, af, g⟩).run P w = .ok (.value ((str (bs.take a)))) w := by
  rw [Oper.semAt_eq _ _ _ (fun c e => by cases e)]
  simp only [execOp, hx, hlo, Option.map_some, Option.map_none]
  rw [sem_bind (run_slice_str_hi hu hi1 h1 w)]
  rfl

theorem r_cat {t yt : Nat} {x y : Operand} {a b : List UInt8} (hlen : a.length + b.length ≤ 9223372036854775807)  (hx : rd n s x = str a) (hy : rd n s y = str b) : (Oper.semAt r (rd n s) ⟨some d, .binOp .add t x y yt, ty, p, af, g⟩).run P w = .ok (.value ((str (a ++ b)))) w := by
  rw [Oper.semAt_eq _ _ _ (fun c e => by cases e)]
  have h1 : ¬ (((⟨a.toArray⟩ : ByteArray).size + (⟨b.toArray⟩ : ByteArray).size : Nat) : Int) > IntKind.i64.max := by
    rw [size_mk, size_mk]
    simp only [IntKind.max, IntKind.signed, IntKind.bits]
    simp; omega
  simp only [execOp, hx, hy, str_eq, eqGuard, binOp, Op.stringOp, append_mk, h1, if_false]
  simp [bind, Sem.bind, pure, Sem.run]

theorem r_conv {src dst : Nat} {x : Operand} {kk kl : IntKind} {a b : Int} {u : TypeDesc}  (h1 : P.underlying src = some u) (h2 : P.underlying dst = some (.int kl)) (hx : rd n s x = .int kk a) (hv : kl.wrap a = b) : (Oper.semAt r (rd n s) ⟨some d, .convert src dst x, ty, p, af, g⟩).run P w = .ok (.value ((.int kl b))) w := by
  rw [Oper.semAt_eq _ _ _ (fun c e => by cases e)]
  simp only [execOp, hx]
  subst hv
  rw [sem_bind (a := .int kl (kl.wrap a)) (w' := w)]
  · rfl
  · unfold convert
    rw [sem_bind (run_underlying' h1 w), sem_bind (run_underlying' h2 w)]
    cases u <;> rfl

theorem r_max {ats : Array TypeId} {x y : Operand} {kk : IntKind} {a b : Int}  (hx : rd n s x = .int kk a) (hy : rd n s y = .int kk b) : (Oper.semAt r (rd n s) ⟨some d, .call ⟨.builtin .max, #[x, y], ats⟩, ty, p, af, g⟩).run P w = .ok (.value ((.int kk (max a b)))) w := by
  rw [Oper.semAt_eq _ _ _ (fun c e => by cases e)]
  have e1 : (if b > a then b else a) = max a b := by
    by_cases h : b > a
    · rw [if_pos h]; omega
    · rw [if_neg h]; omega
  simp only [execOp, resolve, List.map_toArray, List.map_cons, List.map_nil, hx, hy]
  rw [sem_bind (w' := w) rfl]
  simp [invoke, builtin, Builtin.max_, Builtin.max2, bind, Sem.bind, pure, Sem.run, e1]

theorem r_min {ats : Array TypeId} {x y : Operand} {kk : IntKind} {a b : Int}  (hx : rd n s x = .int kk a) (hy : rd n s y = .int kk b) : (Oper.semAt r (rd n s) ⟨some d, .call ⟨.builtin .min, #[x, y], ats⟩, ty, p, af, g⟩).run P w = .ok (.value ((.int kk (min a b)))) w := by
  rw [Oper.semAt_eq _ _ _ (fun c e => by cases e)]
  have e1 : (if b < a then b else a) = min a b := by
    by_cases h : b < a
    · rw [if_pos h]; omega
    · rw [if_neg h]; omega
  simp only [execOp, resolve, List.map_toArray, List.map_cons, List.map_nil, hx, hy]
  rw [sem_bind (w' := w) rfl]
  simp [invoke, builtin, Builtin.min_, Builtin.min2, bind, Sem.bind, pure, Sem.run, e1]

theorem r_indexArr {t e k len : Nat} {x ix : Operand} {kk : IntKind} {i : Int} {b o : Nat} (j : Nat) (hj : j < len)  (hu : P.underlying t = some (.array len e)) (hs : sizeT P e = some k)
    (hx : rd n s x = .pointer (some ⟨b, o, none⟩)) (hix : rd n s ix = .int kk i) (hi : i = (j : Int)) : (Oper.semAt r (rd n s) ⟨some d, .indexAddr t x ix, ty, p, af, g⟩).run P w = .ok (.value ((.pointer (some ⟨b, o + j * k, none⟩)))) w := by
  rw [Oper.semAt_eq _ _ _ (fun c e => by cases e)]
  subst hi
  simp only [execOp, hx, hix]
  rw [sem_bind (a := .pointer (some ⟨b, o + j * k, none⟩)) (w' := w)]
  · rfl
  · unfold Instr.indexAt
    rw [sem_bind (a := (kk, (j : Int))) (w' := w) rfl]
    simp only
    rw [sem_bind (run_underlying' hu w)]
    simp only
    rw [sem_bind (a := (⟨b, o, none⟩ : Addr)) (w' := w) rfl]
    rw [sem_bind (a := (some (⟨b, o, none⟩ : Addr), len, e)) (w' := w) rfl]
    have h1 : (0 : Int) ≤ (j : Int) ∧ (j : Int) < (len : Int) := ⟨by omega, by omega⟩
    rw [sem_bind (a := TypeDesc.array len e) (w' := w) (run_underlying' hu w)]
    simp only [h1, and_self, if_true]
    rw [sem_bind (run_sizeT hs w)]
    simp [pure, Sem.run, add_mk]


theorem r_binN {c : Int} (hx : rd n s x = .int .i64 a) (hy : rd n s y = .int .i64 b) (hv : binN bo a b = some c) (hc : -9223372036854775808 ≤ c ∧ c ≤ 9223372036854775807) :
    (Oper.semAt r (rd n s) ⟨some k, .binOp bo xt x y yt, ty, p, af, g⟩).run P w = .ok (.value (.int .i64 c)) w := by
  refine r_binI hx hy ?_
  cases bo <;> simp only [binN, Option.some.injEq, reduceCtorEq] at hv <;> subst hv <;> simp only [binI] <;> rw [wrap_i64 hc]

theorem r_binC {c : Bool} (hx : rd n s x = .int kk a) (hy : rd n s y = .int kk b) (hv : binC bo a b = some c) :
    (Oper.semAt r (rd n s) ⟨some k, .binOp bo xt x y yt, ty, p, af, g⟩).run P w = .ok (.value (.bool c)) w := by
  refine r_binI hx hy ?_
  cases bo <;> simp only [binC, Option.some.injEq, reduceCtorEq] at hv <;> subst hv <;> rfl

theorem r_notd {q : Prop} [Decidable q] (hx : rd n s x = .bool (decide q)) :
    (Oper.semAt r (rd n s) ⟨some k, .unOp .not xt x, ty, p, af, g⟩).run P w = .ok (.value (.bool (decide (¬ q)))) w := by
  rw [r_notb hx, ← decide_not]

theorem r_pick_t {c a b : Operand} {v : Value} (hc : rd n s c = .bool true) (ha : rd n s a = v) :
    (Oper.semAt r (rd n s) ⟨some k, .pick c a b, ty, p, af, g⟩).run P w = .ok (.value v) w := r_pick hc ha rfl
theorem r_pick_f {c a b : Operand} {v : Value} (hc : rd n s c = .bool false) (hb : rd n s b = v) :
    (Oper.semAt r (rd n s) ⟨some k, .pick c a b, ty, p, af, g⟩).run P w = .ok (.value v) w := r_pick hc rfl hb
end

section
variable {ops : Array Oper} {E : List Nat} {C C2 : World → Prop} {K : St → Prop} {i : Nat} {l : List Nat} {s : St} {k : Nat} {op : Op} {ty : TypeId} {p : String} {af : Array Edge} {g : Option (Nat × Bool)}

theorem q_nil (h : K s) : OpsQ P r n ops E C C2 K [] s := h

theorem q_pur {v : Value} (ho : ops[i]? = some ⟨some k, op, ty, p, af, g⟩) (hw : Region.wanted ⟨some k, op, ty, p, af, g⟩ (yieldedE ops n s) = true) (hp : isPur op = true) (h : ∀ w, (Oper.semAt r (rd n s) ⟨some k, op, ty, p, af, g⟩).run P w = .ok (.value v) w)
    (hk : OpsQ P r n ops E C C2 K l (s.set k v)) : OpsQ P r n ops E C C2 K (i :: l) s := by
  simp only [OpsQ, ho, hw, if_true, hp]
  exact ⟨v, h, hk⟩

theorem q_late {v : Value} (ho : ops[i]? = some ⟨some k, op, ty, p, af, g⟩) (hw : Region.wanted ⟨some k, op, ty, p, af, g⟩ (yieldedE ops n s) = true) (hp : isPur op = false) (hE : E.contains i = true) (h : ∀ w, C2 w → (Oper.semAt r (rd n s) ⟨some k, op, ty, p, af, g⟩).run P w = .ok (.value v) w)
    (hk : OpsQ P r n ops E C C2 K l (s.set k v)) : OpsQ P r n ops E C C2 K (i :: l) s := by
  simp only [OpsQ, ho, hw, if_true, hp, Bool.false_eq_true, if_false, hE]
  exact ⟨v, h, hk⟩

theorem q_val {v : Value} (ho : ops[i]? = some ⟨some k, op, ty, p, af, g⟩) (hw : Region.wanted ⟨some k, op, ty, p, af, g⟩ (yieldedE ops n s) = true) (hp : isPur op = false) (hE : E.contains i = false) (h : ∀ w, C w → (Oper.semAt r (rd n s) ⟨some k, op, ty, p, af, g⟩).run P w = .ok (.value v) w)
    (hk : OpsQ P r n ops E C C2 K l (s.set k v)) : OpsQ P r n ops E C C2 K (i :: l) s := by
  simp only [OpsQ, ho, hw, if_true, hp, Bool.false_eq_true, if_false, hE]
  exact ⟨v, fun w hC => by rw [h w hC]; exact ⟨rfl, hC⟩, hk⟩

theorem q_not (ho : ops[i]? = some ⟨some k, op, ty, p, af, g⟩) (hw : Region.wanted ⟨some k, op, ty, p, af, g⟩ (yieldedE ops n s) = false) (hk : OpsQ P r n ops E C C2 K l (s.set k undef)) : OpsQ P r n ops E C C2 K (i :: l) s := by
  simp only [OpsQ, ho, hw, Bool.false_eq_true, if_false]
  exact hk

/-- A call whose answer is known, and which leaves a world of the class. -/
theorem q_call {v : Value} {f : FuncId} {args : Array Value} {R : Value → World → Prop} (ho : ops[i]? = some ⟨some k, op, ty, p, af, g⟩) (hw : Region.wanted ⟨some k, op, ty, p, af, g⟩ (yieldedE ops n s) = true) (hp : isPur op = false) (hE : E.contains i = false)
    (h : ∀ w, (Oper.semAt r (rd n s) ⟨some k, op, ty, p, af, g⟩).run P w = .ok (.enter f args) w) (hc : ∀ w, C w → Calls P f args w (fun e w' => ∃ u, e = .returned u ∧ R u w')) (hR : ∀ w u w', C w → R u w' → u = v ∧ C w')
    (hk : OpsQ P r n ops E C C2 K l (s.set k v)) : OpsQ P r n ops E C C2 K (i :: l) s := by
  simp only [OpsQ, ho, hw, if_true, hp, Bool.false_eq_true, if_false, hE]
  refine ⟨v, fun w hC => ?_, hk⟩
  rw [h w]
  refine (hc w hC).mono ?_
  rintro e w' ⟨u, rfl, hu⟩
  obtain ⟨rfl, hC'⟩ := hR w u w' hC hu
  exact ⟨rfl, hC'⟩

theorem wk_draw {id : Nat} {ol : List Oper} {K : St → World → Prop} {Q : Ex} {s : St} {w : World} (H E T : List Nat) (C C2 : World → Prop) (hm : P.follows .mixedOrders = true) (hchk : regOk ol.toArray H E T = true) (hX : ∀ c s s' w, Q (.panic c) s w → Q (.panic c) s' w) (hC : ∀ w', To w w' w.heap → C w') (hCC : ∀ w', C w' → C2 w')
    (h : OpsQ P r n ol.toArray E C C2 (fun sT => ∀ w', C w' → OpsC P r n ol.toArray C2 K (fun c => Q (.panic c)) T sT w') H s) : WK P r n (.region id ol.toArray true) K Q s w := by
  unfold WK
  exact w_draw H E T C C2 hm hchk hX hC hCC h

/-- The tail: by indices, as a list of operations. -/
theorem ops_tail {K : St → World → Prop} {X : List PanicEntry → St → World → Prop} {w : World} {o : Oper} (ho : ops[i]? = some o) (hw : Region.wanted o (yieldedE ops n s) = true) (h : OpsL P r n ops (fun s w => C2 w ∧ OpsC P r n ops C2 K X l s w) X [o] s w) : OpsC P r n ops C2 K X (i :: l) s w := by
  simp only [OpsC, ho, hw, if_true]
  simp only [OpsL, hw, if_true] at h
  exact h

theorem ops_nil {K : St → World → Prop} {X : List PanicEntry → St → World → Prop} {w : World} (h : K s w) : OpsC P r n ops C2 K X [] s w := h
end
end Go.Pd
