/-
  Facts: what the parsers share (function values that may panic, maps with numbers as keys, leaving with a deferred call).
-/
import Derived.Test.YtcanaadgcgophaaDoorFaM
import Derived.Test.YtcanaadgcgophaaDoorFaDo
import Derived.Test.YtcanaadgcgophaaDoorIter
import Derived.Test.YtcanaadgcgophaaDoorLast2
set_option linter.unusedVariables false
set_option linter.unusedSimpArgs false
set_option linter.unnecessarySimpa false
set_option maxRecDepth 10000
namespace Go.Pd
open Go Go.Proofs
section
variable {P : Program} {r : Option Nat} {n : Nat} {ops : Array Oper} {K : St → World → Prop} {X : List PanicEntry → St → World → Prop} {l : List Oper} {s : St} {w : World} {d : Nat} {ty : TypeId} {p : String} {af : Array Edge} {g : Option (Nat × Bool)}
/-- A call of a function value that may panic. -/
def CallE (P : Program) (fv : Value) (args : Array Value) (w : World) (R : Value → World → Prop) (Z : List PanicEntry → World → Prop) : Prop :=
  ∃ f fi ca, fv = .func (.func f) fi ca ∧ (∀ w, (callFunc f (fi ++ args ++ ca)).run P w = .ok (.enter f (fi ++ args ++ ca)) w) ∧ Calls P f (fi ++ args ++ ca) w (EndP R Z)
theorem a_fwP {x : Operand} {xs : Array Operand} {ats : Array TypeId} {fv : Value} {args : Array Value} {R : Value → World → Prop} {Z : List PanicEntry → World → Prop} (hc : CallE P fv args w R Z) (hk : ∀ v w', R v w' → OpsL P r n ops K X l (s.set d v) w') (hz : ∀ ch w', Z ch w' → X ch s w') (hw : Region.wanted ⟨some d, .call ⟨.value x, xs, ats⟩, ty, p, af, g⟩ (yieldedE ops n s) = true := by rfl)
    (hx : rd n s x = fv := by rfl) (hargs : xs.toList.map (rd n s) = args.toList := by rfl) : OpsL P r n ops K X (⟨some d, .call ⟨.value x, xs, ats⟩, ty, p, af, g⟩ :: l) s w := by
  refine o_wanted hw ?_
  unfold OpW
  rw [Oper.semAt_eq _ _ _ (fun c e => by cases e)]
  have hargs' : xs.map (rd n s) = args := Array.ext' (by simpa using hargs)
  simp only [execOp, resolve, hargs', hx]
  obtain ⟨f, fi, ca, rfl, h2, h3⟩ := hc
  rw [sem_bind (a := { target := .fn (.func f) ca, args := fi ++ args }) (w' := w) rfl]
  simp only [invoke]
  rw [h2 w]
  refine Calls.mono h3 ?_
  rintro e w' (⟨v, rfl, hR⟩ | ⟨c, rfl, hZ⟩)
  · exact hk v w' hR
  · exact hz c w' hZ
end
theorem key_i64 {P : Program} {kt : TypeId} (hu : P.underlying kt = some (.int .i64)) : Key P kt (Value.int .i64) := by
  refine ⟨fun e a w => ?_, fun a b w => ?_, fun a b u hu' x hx => ?_, fun a => ?_, ⟨_, hu⟩⟩
  · show (Instr.checkKey e (9999 + 1) kt _).run P w = _
    unfold Instr.checkKey
    rw [sem_bind (run_underlying' hu w)]
    rfl
  · exact (Sc.int hu).run 9999 w
  · rw [hu] at hu'
    cases hu'
    simp only [Instr.sameNow, if_true, Option.some.injEq] at hx
    rw [← hx]
    by_cases h : a = b <;> simp [h]
  · show (a == a) = true
    simp
end Go.Pd
namespace Go.Proofs
open Go Go.Pd Go.Fac Go.Fo
open Go.Lexs (Tok lex)
attribute [local irreducible] OpsL W RetQ OpsQ OpsC
theorem off_new {w : World} {sv : Value} {k : Nat} {vs : List Value} {pb : Nat} (h : Sl w sv k vs) (hk : 0 < k) (hne : vs ≠ []) (hpb : w.heap.size ≤ pb) : Off (OneB pb) sv := by
  rcases h with ⟨-, h⟩ | ⟨a, m, c, rfl, h2, h3, h4, h5⟩
  · exact absurd h hne
  · intro hm
    cases vs with
    | nil => exact hne rfl
    | cons v vs =>
      have := lt_of_cell (h5 0 v rfl)
      rw [List.mem_singleton.1 hm] at this
      omega
/-- Tokens lie in none of the results' cells. -/
theorem off_res {T : TypeId} {w w0 : World} {M : Nat → Prop} {sv dv : Value} {ts : List Tok} {b2 b3 b4 : Nat} {e a : Int} (h : Sl w sv 4 (toksL ts)) (hl : LH w0 M w (resB T b2 b3 b4 dv e a)) (hne : toksL ts ≠ []) : Off (resK b2 b3 b4) sv := by
  cases ts with
  | nil => exact absurd rfl hne
  | cons t ts =>
    rcases h with ⟨-, h⟩ | ⟨ad, m, c, rfl, h2, h3, h4, h5⟩
    · exact absurd h hne
    · intro hm
      have h3 : (toksL (t :: ts))[3]? = some (.int .i64 (t.pos : Int)) := rfl
      simp only [List.mem_cons, List.not_mem_nil, or_false] at hm
      rcases hm with hm | hm | hm
      · rw [hm] at h5
        have := row_block (hl.get 0 rfl) h5 h3
        simp at this
      · rw [hm] at h5
        have := row_block (hl.get 1 rfl) h5 h3
        simp at this
      · rw [hm] at h5
        have := row_block (hl.get 2 rfl) h5 h3
        simp at this
def recDD (b2 b3 b4 : Nat) : Deferred := { target := .fn (.func 35) #[.pointer (some ⟨b2, 0, none⟩), .pointer (some ⟨b3, 0, none⟩), .pointer (some ⟨b4, 0, none⟩)], args := #[] ++ #[] }
theorem parseD_ret {s : St} {w : World} {R : Value → World → Prop} {b2 b3 b4 : Nat} (hd : s.d = [recDD b2 b3 b4]) (vs : List Value) (h : ∀ w', Ext w w' → ResOK Tryd.prog 94 s w' [.cell 2 24, .cell 3 29, .cell 4 3] vs ∧ R (tupleOf vs) w') : RetP Tryd.prog Tryd.f11 94 R (fun _ _ => False) .ret s w := by
  intro a hf
  rw [hd]
  refine leaves_rec (by simp) (fun _ => rfl) ?_
  refine CallsDIn.mono recD_calm ?_
  rintro e u' w' ⟨he, rfl, hx⟩
  obtain ⟨h1, h2⟩ := h w' hx
  exact ⟨he, rfl, _, run_results rfl hf h1, .inl ⟨_, rfl, h2⟩⟩
theorem parseD_panic {s : St} {w : World} {R : Value → World → Prop} {b2 b3 b4 : Nat} (hd : s.d = [recDD b2 b3 b4]) {dv : Value} {e0 a0 e a : Int} (hl : LH w (resK b2 b3 b4) w (resB 24 b2 b3 b4 dv e0 a0)) (h2 : s.t 2 = .pointer (some ⟨b2, 0, none⟩)) (h3 : s.t 3 = .pointer (some ⟨b3, 0, none⟩)) (h4 : s.t 4 = .pointer (some ⟨b4, 0, none⟩)) (h : ∀ w', Upd (resK b2 b3 b4) w w' → R (.tuple #[.agg #[.slice none 0 0], .int .i64 e, .int .i64 a]) w') : RetP Tryd.prog Tryd.f11 94 R (fun _ _ => False) (.panic (faultC e a)) s w := by
  intro t hf
  rw [hd]
  refine leaves_rec (by simp) (fun _ => rfl) ?_
  refine CallsDIn.mono (recD_fault hl) ?_
  rintro x u' w' ⟨he, rfl, hl'⟩
  refine ⟨he, rfl, _, run_results (vs := [.agg #[.slice none 0 0], .int .i64 e, .int .i64 a]) (rs := [.cell 2 24, .cell 3 29, .cell 4 3]) rfl hf ?_, .inl ⟨_, rfl, h w' hl'.upd⟩⟩
  refine ⟨by decide, ⟨_, h2, ?_⟩, by decide, ⟨_, h3, run_loadVar1 rfl (hl'.cell 1 rfl rfl)⟩, by decide, ⟨_, h4, run_loadVar1 rfl (hl'.cell 0 rfl rfl)⟩, trivial⟩
  first
    | exact run_loadVarN rfl rfl (hl'.rowL (vs := [.slice none 0 0]) 2 0 1 rfl)
    | exact run_loadVar1 rfl (hl'.cell 2 rfl rfl)
def recCC (b2 b3 b4 : Nat) : Deferred := { target := .fn (.func 44) #[.pointer (some ⟨b2, 0, none⟩), .pointer (some ⟨b3, 0, none⟩), .pointer (some ⟨b4, 0, none⟩)], args := #[] ++ #[] }
theorem parseC_ret {s : St} {w : World} {R : Value → World → Prop} {b2 b3 b4 : Nat} (hd : s.d = [recCC b2 b3 b4]) (vs : List Value) (h : ∀ w', Ext w w' → ResOK Tryd.prog 123 s w' [.cell 4 26, .cell 5 29, .cell 6 3] vs ∧ R (tupleOf vs) w') : RetP Tryd.prog Tryd.f13 123 R (fun _ _ => False) .ret s w := by
  intro a hf
  rw [hd]
  refine leaves_rec (by simp) (fun _ => rfl) ?_
  refine CallsDIn.mono recC_calm ?_
  rintro e u' w' ⟨he, rfl, hx⟩
  obtain ⟨h1, h2⟩ := h w' hx
  exact ⟨he, rfl, _, run_results rfl hf h1, .inl ⟨_, rfl, h2⟩⟩
theorem parseC_panic {s : St} {w : World} {R : Value → World → Prop} {b2 b3 b4 : Nat} (hd : s.d = [recCC b2 b3 b4]) {dv : Value} {e0 a0 e a : Int} (hl : LH w (resK b2 b3 b4) w (resB 26 b2 b3 b4 dv e0 a0)) (h2 : s.t 4 = .pointer (some ⟨b2, 0, none⟩)) (h3 : s.t 5 = .pointer (some ⟨b3, 0, none⟩)) (h4 : s.t 6 = .pointer (some ⟨b4, 0, none⟩)) (h : ∀ w', Upd (resK b2 b3 b4) w w' → R (.tuple #[.slice none 0 0, .int .i64 e, .int .i64 a]) w') : RetP Tryd.prog Tryd.f13 123 R (fun _ _ => False) (.panic (faultC e a)) s w := by
  intro t hf
  rw [hd]
  refine leaves_rec (by simp) (fun _ => rfl) ?_
  refine CallsDIn.mono (recC_fault hl) ?_
  rintro x u' w' ⟨he, rfl, hl'⟩
  refine ⟨he, rfl, _, run_results (vs := [.slice none 0 0, .int .i64 e, .int .i64 a]) (rs := [.cell 4 26, .cell 5 29, .cell 6 3]) rfl hf ?_, .inl ⟨_, rfl, h w' hl'.upd⟩⟩
  refine ⟨by decide, ⟨_, h2, ?_⟩, by decide, ⟨_, h3, run_loadVar1 rfl (hl'.cell 1 rfl rfl)⟩, by decide, ⟨_, h4, run_loadVar1 rfl (hl'.cell 0 rfl rfl)⟩, trivial⟩
  first
    | exact run_loadVarN rfl rfl (hl'.rowL (vs := [.slice none 0 0]) 2 0 1 rfl)
    | exact run_loadVar1 rfl (hl'.cell 2 rfl rfl)
end Go.Proofs
