/-
  Scopes; tests that part the walk; functions of the model's own; texts turned into bytes.
-/
import Derived.Test.YtjijmehighoonaaDoorRun
import Derived.Lib.Bytealg
import Derived.Scope
set_option linter.unusedSimpArgs false
set_option linter.unnecessarySimpa false
set_option maxRecDepth 10000
set_option linter.unusedVariables false
namespace Go.Pd
variable {P : Program} {r : Option Nat} {n : Nat}

section
variable {b : Frame} {a : Act} {k : List Item} {cs : List Frame} {w : World}
theorem stepR_scope {c : Code} : step P (lone (b.atR a (.code (.scope c) :: k)) cs w) = .next (lone (b.atR a (.code c :: .inScope c :: k)) cs w) :=
  step_lone_go (by simp [stepG, stepG.exec, Frame.atR])
theorem stepR_inScope {c : Code} : step P (lone (b.atR a (.inScope c :: k)) cs w) = .next (lone (b.atR a k) cs w) :=
  step_lone_go (by simp [stepG, stepG.exec, Frame.atR])
end

def NoGoto (Q : Ex) : Ex
  | .goto _, _, _ => False
  | e, s, w => Q e s w

theorem w_scope {c : Code} {Q : Ex} {s : St} {w : World} (h : W P r n c (NoGoto Q) s w) : W P r n (.scope c) Q s w := by
  intro a hf b k cs hro hb hr
  have h0 : (lone (b.atR a (.code (.scope c) :: k)) cs w).fenced P (FR r) := fenced_calm hb hr rfl
  obtain ⟨e, a₁, w₁, ⟨s', hf', hq⟩, harr⟩ := h a hf b (.inScope c :: k) cs hro hb hr
  cases e with
  | normal => exact ⟨.normal, a₁, w₁, ⟨s', hf', hq⟩, .head h0 stepR_scope (StepsIn.trans harr (.one (fenced_calm hb hr rfl) stepR_inScope))⟩
  | exit id =>
    have hx : exitTo id (.inScope c :: k) = exitTo id k := by simp [exitTo]
    exact ⟨.exit id, a₁, w₁, ⟨s', hf', hq⟩, fun k' hk => .head h0 stepR_scope (harr.1 k' (by rw [hx]; exact hk)),
      fun hr' hk => let ⟨k₁, h1, h2⟩ := harr.2 hr' (by rw [hx]; exact hk); ⟨k₁, h1, .head h0 stepR_scope h2⟩⟩
  | goto l => exact hq.elim
  | ret => exact ⟨_, a₁, w₁, ⟨s', hf', hq⟩, .of_steps (.one h0 stepR_scope) harr⟩
  | panic ch => exact ⟨_, a₁, w₁, ⟨s', hf', hq⟩, .of_steps (.one h0 stepR_scope) harr⟩
  | outgrown => exact ⟨_, a₁, w₁, ⟨s', hf', hq⟩, .of_steps (b := b) (k := k) (cs := cs) (e := .outgrown) (.one h0 stepR_scope) harr⟩

theorem wk_scope {c : Code} {K : St → World → Prop} {Q : Ex} {s : St} {w : World} (h : WK P r n c K (NoGoto Q) s w) : WK P r n (.scope c) K Q s w := by
  unfold WK at *
  refine w_scope (w_mono h fun e s w h => ?_)
  cases e <;> exact h

section
variable {ops : Array Oper} {K : St → World → Prop} {X : List PanicEntry → St → World → Prop} {l : List Oper} {s : St} {w w0 : World} {M : Nat → Prop} {bl : List (Nat × Obj)}
variable {d : Nat} {ty : TypeId} {p : String} {af : Array Edge} {g : Option (Nat × Bool)} {k : Nat}

/-- A test of two integers: the walk parts. -/
theorem o_binT {bo : BinOp} {xt yt : TypeId} {x y : Operand} {kk : IntKind} {a b : Int} {q : Prop} [Decidable q] (hw : Region.wanted ⟨some k, .binOp bo xt x y yt, ty, p, af, g⟩ (yieldedE ops n s) = true) (hx : rd n s x = .int kk a) (hy : rd n s y = .int kk b) (hv : binC bo a b = some (decide q))
    (ht : q → OpsL P r n ops K X l (s.set k (.bool true)) w) (hf : ¬ q → OpsL P r n ops K X l (s.set k (.bool false)) w) : OpsL P r n ops K X (⟨some k, .binOp bo xt x y yt, ty, p, af, g⟩ :: l) s w := by
  refine o_binC hw hx hy hv ?_
  by_cases h : q
  · rw [decide_eq_true h]; exact ht h
  · rw [decide_eq_false h]; exact hf h

theorem o_eqsT {t yt : Nat} {x y : Operand} {a b : List UInt8} (hw : Region.wanted ⟨some k, .binOp .eql t x y yt, ty, p, af, g⟩ (yieldedE ops n s) = true) (hx : rd n s x = str a) (hy : rd n s y = str b)
    (ht : a = b → OpsL P r n ops K X l (s.set k (.bool true)) w) (hf : a ≠ b → OpsL P r n ops K X l (s.set k (.bool false)) w) : OpsL P r n ops K X (⟨some k, .binOp .eql t x y yt, ty, p, af, g⟩ :: l) s w := by
  refine o_eqs hw hx hy ?_
  by_cases h : a = b
  · rw [decide_eq_true h]; exact ht h
  · rw [decide_eq_false h]; exact hf h

theorem o_nesT {t yt : Nat} {x y : Operand} {a b : List UInt8} (hw : Region.wanted ⟨some k, .binOp .neq t x y yt, ty, p, af, g⟩ (yieldedE ops n s) = true) (hx : rd n s x = str a) (hy : rd n s y = str b)
    (ht : a ≠ b → OpsL P r n ops K X l (s.set k (.bool true)) w) (hf : a = b → OpsL P r n ops K X l (s.set k (.bool false)) w) : OpsL P r n ops K X (⟨some k, .binOp .neq t x y yt, ty, p, af, g⟩ :: l) s w := by
  refine o_nes hw hx hy ?_
  by_cases h : a = b
  · rw [decide_eq_false (fun h' => h' h)]; exact hf h
  · rw [decide_eq_true h]; exact ht h

/-- A function of the model's own (without a body in Go). -/
theorem o_extern {f : FuncId} {fn : Func} {e : Array Value → Sem Value} {xs : Array Operand} {ats : Array TypeId} {args : Array Value} {v : Value} (hw : Region.wanted ⟨some d, .call ⟨.value (.func f), xs, ats⟩, ty, p, af, g⟩ (yieldedE ops n s) = true)
    (hf : P.funcs[f]? = some fn) (hn : (fn.name == "runtime.NumGoroutine") = false) (hb : fn.body.isNone = true) (h1 : (Extern.findNext fn).isNone = true) (h2 : Extern.find fn = some e) (hargs : xs.toList.map (rd n s) = args.toList)
    (hr : (e args).run P w = .ok v w) (hk : OpsL P r n ops K X l (s.set d v) w) : OpsL P r n ops K X (⟨some d, .call ⟨.value (.func f), xs, ats⟩, ty, p, af, g⟩ :: l) s w := by
  refine o_val hw ?_ hk
  rw [Oper.semAt_eq _ _ _ (fun c e => by cases e)]
  have hargs' : xs.map (rd n s) = args := Array.ext' (by simpa using hargs)
  simp only [execOp, resolve, hargs', rd_func]
  rw [sem_bind (a := { target := .fn (.func f) #[], args := #[] ++ args }) (w' := w) rfl]
  simp only [invoke, Array.empty_append, Array.append_empty, callFunc]
  rw [sem_bind (a := P) (w' := w) rfl]
  have h3 : Extern.findNext fn = none := by simpa using h1
  simp only [hf, hn, Bool.false_eq_true, if_false, hb, if_true, h3, h2]
  rw [sem_bind (a := ()) (w' := w) rfl]
  rw [sem_bind hr]
  rfl

def u8 (c : UInt8) : Value := .int .u8 (c.toNat : Int)

theorem run_bytes {src dst e : TypeId} {bs : List UInt8} (h1 : P.underlying src = some .string) (h2 : P.underlying dst = some (.slice e)) (h3 : P.underlying e = some (.int .u8)) (w : World) :
    ∃ c w', (convert src dst (str bs)).run P w = .ok (.slice (some ⟨w.heap.size, 0, none⟩) bs.length c) w' ∧ bs.length ≤ c ∧ Ext w w' ∧ Row w' w.heap.size 0 (bs.map u8) := by
  let cap := bs.length + w.tape w.drawn (.appendCap bs.length 0 e) % (2 ^ 63 - bs.length)
  let el : Array Value := (bs.map u8).toArray
  let w1 : World := { w with drawn := w.drawn + 1 }
  let w2 : World := { w1 with heap := w1.heap.push (.cells (el ++ Array.replicate (cap - bs.length) (.int .u8 0)) e) }
  let w3 : World := w2.freeze { block := w.heap.size, off := (el ++ Array.replicate (cap - bs.length) (Value.int .u8 0)).size } 1
  have hother : ∀ b, b < w.heap.size → w3.heap[b]? = w.heap[b]? := fun b hb => by
    show (w2.heap.modify w.heap.size _)[b]? = _
    rw [Array.getElem?_modify, if_neg (by omega)]
    show (w.heap.push _)[b]? = _
    rw [Array.getElem?_push_lt hb, Array.getElem?_eq_getElem hb]
  have hself : ∃ fz, w3.heap[w.heap.size]? = some (.cells (el ++ Array.replicate (cap - bs.length) (.int .u8 0)) e fz) := by
    refine ⟨((el ++ Array.replicate (cap - bs.length) (Value.int .u8 0)).size, (el ++ Array.replicate (cap - bs.length) (Value.int .u8 0)).size + 1), ?_⟩
    show (w2.heap.modify w.heap.size _)[w.heap.size]? = _
    rw [Array.getElem?_modify, if_pos rfl]
    show Option.map _ (w.heap.push _)[w.heap.size]? = _
    rw [Array.getElem?_push_size]
    rfl
  refine ⟨cap, w3, ?_, Nat.le_add_right _ _, ⟨?_, fun b hb _ => hother b hb, rfl, rfl⟩, ?_⟩
  · unfold convert
    rw [sem_bind (run_underlying' h1 w), sem_bind (run_underlying' h2 w)]
    simp only [str_eq]
    rw [sem_bind (run_underlying' h3 w)]
    simp only [Conv.stringToBytes]
    rw [sem_bind (a := cap) (w' := w1)]
    · have e1 : ((⟨bs.toArray⟩ : ByteArray).data.map fun b => Value.int .u8 (b.toNat : Int)) = el := by
        simp [el]
        intro a _; rfl
      rw [e1, size_mk]
      rw [sem_bind (a := (⟨w.heap.size, 0, none⟩ : Addr)) (w' := w2) (by simp [newRow, newObj, bind, Sem.bind, Sem.run, pure, w2, w1]; rfl)]
      rw [sem_bind (a := ()) (w' := w3)]
      · rfl
      · unfold markStringish
        rw [sem_bind (a := some (e, (el ++ Array.replicate (cap - bs.length) (Value.int .u8 0)).size)) (w' := w2)]
        · simp only [freeze, Sem.run]; rfl
        · simp only [shape, Sem.run, World.shape?]
          have : w2.heap[w.heap.size]? = some (.cells (el ++ Array.replicate (cap - bs.length) (.int .u8 0)) e) := by
            show (w.heap.push _)[w.heap.size]? = _
            rw [Array.getElem?_push_size]
          simp only [this]
    · simp [choose, Sem.run, Question.forced, Question.cut, size_mk, cap, w1]
  · show w.heap.size ≤ (w2.heap.modify w.heap.size _).size
    simp [w2, w1]
  · obtain ⟨fz, hs⟩ := hself
    refine Row.of_block hs fun i v hi => ?_
    rw [Nat.zero_add, Array.getElem?_append]
    have hlt : i < (bs.map u8).length := (List.getElem?_eq_some_iff.1 hi).1
    rw [if_pos (by simpa [el] using hlt)]
    simpa [el] using hi

/-- []byte(s). -/
theorem o_bytes {src dst e : TypeId} {x : Operand} {bs : List UInt8} (hw : Region.wanted ⟨some d, .convert src dst x, ty, p, af, g⟩ (yieldedE ops n s) = true) (h1 : P.underlying src = some .string) (h2 : P.underlying dst = some (.slice e)) (h3 : P.underlying e = some (.int .u8)) (hx : rd n s x = str bs)
    (hk : ∀ b c w', Ext w w' → w.heap.size ≤ b → bs.length ≤ c → Row w' b 0 (bs.map u8) → OpsL P r n ops K X l (s.set d (.slice (some ⟨b, 0, none⟩) bs.length c)) w') : OpsL P r n ops K X (⟨some d, .convert src dst x, ty, p, af, g⟩ :: l) s w := by
  obtain ⟨c, w', hr, hc, he, hrow⟩ := run_bytes (bs := bs) h1 h2 h3 w
  refine o_val (w' := w') hw ?_ (hk _ c w' he (Nat.le_refl _) hc hrow)
  rw [Oper.semAt_eq _ _ _ (fun c e => by cases e)]
  simp only [execOp, hx]
  rw [sem_bind hr]
  rfl
end
end Go.Pd
