/-
  The walk: code with its continuation.
-/
import Derived.Test.YtjijmehighoonaaDoorSl
set_option linter.unusedSimpArgs false
set_option linter.unnecessarySimpa false
set_option maxRecDepth 10000
set_option linter.unusedVariables false
namespace Go.Pd
variable {P : Program} {r : Option Nat} {n : Nat}

abbrev Ex := Exit → St → World → Prop

/-- Code that goes on to K where it ends normally, and to Q otherwise. -/
def WK (P : Program) (r : Option Nat) (n : Nat) (c : Code) (K : St → World → Prop) (Q : Ex) (s : St) (w : World) : Prop := W P r n c (ThenQ K Q) s w

def BlockK (id : Nat) (K : St → World → Prop) (Q : Ex) : Ex
  | .exit id', s, w => if id' = id then K s w else Q (.exit id') s w
  | e, s, w => Q e s w

section
variable {K : St → World → Prop} {Q : Ex} {s : St} {w : World}

theorem wk_w {c : Code} (h : WK P r n c (Q .normal) Q s w) : W P r n c Q s w := w_mono h fun e s w h => by cases e <;> exact h

theorem wk_seq {x y : Code} (h : ∀ K' : St → World → Prop, (∀ s w, WK P r n y K Q s w → K' s w) → WK P r n x K' Q s w) : WK P r n (.seq x y) K Q s w := by
  refine w_seq (w_mono (h _ fun s w h => h) fun e s w h => ?_)
  cases e <;> exact h

theorem wk_reg {id : Nat} {l : List Oper} (h : OpsL P r n l.toArray K (fun c => Q (.panic c)) l s w) : WK P r n (.region id l.toArray false) K Q s w := w_regionL h

theorem wk_skip (h : K s w) : WK P r n .skip K Q s w := w_skip h
theorem wk_label {l : Nat} (h : K s w) : WK P r n (.label l) K Q s w := w_label h
theorem wk_exit {id : Nat} (h : Q (.exit id) s w) : WK P r n (.exit id) K Q s w := w_exit h
theorem wk_goto {id : Nat} (h : Q (.goto id) s w) : WK P r n (.goto id) K Q s w := w_goto h
theorem wk_ret (h : Q .ret s w) : WK P r n .ret K Q s w := w_ret h
theorem wk_block {id : Nat} {c : Code} (h : WK P r n c K (BlockK id K Q) s w) : WK P r n (.block id c) K Q s w := by
  refine w_block (w_mono h fun e s w h => ?_)
  cases e with
  | exit id' =>
    simp only [ThenQ, BlockK, BlockQ] at h ⊢
    by_cases hid : id' = id
    · simp only [hid, if_true] at h ⊢; exact h
    · simp only [hid, if_false] at h ⊢; exact h
  | _ => exact h
theorem wk_cond {c : Operand} {x y : Code} {b : Bool} (hc : rd n s c = .bool b) (ht : b = true → WK P r n x K Q s w) (hf : b = false → WK P r n y K Q s w) : WK P r n (.cond c x y) K Q s w := w_cond hc ht hf
theorem wk_cond_dec {c : Operand} {x y : Code} {p : Prop} [Decidable p] (hc : rd n s c = .bool (decide p)) (ht : p → WK P r n x K Q s w) (hf : ¬ p → WK P r n y K Q s w) : WK P r n (.cond c x y) K Q s w :=
  w_cond hc (fun h => ht (of_decide_eq_true h)) (fun h => hf (of_decide_eq_false h))
theorem wk_cond_t {c : Operand} {x y : Code} (hc : rd n s c = .bool true) (h : WK P r n x K Q s w) : WK P r n (.cond c x y) K Q s w := w_cond_t hc h
theorem wk_cond_f {c : Operand} {x y : Code} (hc : rd n s c = .bool false) (h : WK P r n y K Q s w) : WK P r n (.cond c x y) K Q s w := w_cond_f hc h
theorem wk_loop {α : Type} {c : Code} (I : α → St → World → Prop) (μ : α → Nat) (x₀ : α) (h₀ : I x₀ s w)
    (round : ∀ x s w, I x s w → WK P r n c (fun s' w' => ∃ x', I x' s' w' ∧ μ x' < μ x) Q s w) : WK P r n (.loop c) K Q s w :=
  w_loop I μ x₀ h₀ fun x s w hI => w_mono (round x s w hI) fun e s w h => by cases e <;> exact h

theorem blockK_same {id : Nat} (h : K s w) : BlockK id K Q (.exit id) s w := by simp only [BlockK, if_true]; exact h
theorem blockK_other {id id' : Nat} (hne : Nat.beq id' id = false) (h : Q (.exit id') s w) : BlockK id K Q (.exit id') s w := by
  have : id' ≠ id := fun e => by subst e; simp at hne
  simp only [BlockK, this, if_false]; exact h
theorem blockK_ret {id : Nat} (h : Q .ret s w) : BlockK id K Q .ret s w := h

/-- Cutting: what follows may be proved of every state that agrees on the slots that matter. -/
theorem wk_mono {c : Code} {K' : St → World → Prop} (h : WK P r n c K' Q s w) (hk : ∀ s w, K' s w → K s w) : WK P r n c K Q s w := w_mono h fun e s w h => by cases e <;> first | exact hk _ _ h | exact h
end

theorem calls_of {f : FuncId} {fn : Func} {c : Code} {args : Array Value} {w : World} {R : Value → World → Prop} {n : Nat}
    (hf : P.funcs[f]? = some fn) (hb : fn.body = some c) (hm : fn.ntmps = n) (hn : Nat.ble args.size n = true)
    (h : WK P none n c (RetQ P fn n R .ret) (RetQ P fn n R) (st0 args) w) : Calls P f args w (fun e w' => ∃ v, e = .returned v ∧ R v w') := by
  subst hm
  exact calls_of_w hf hb (Nat.le_of_ble_eq_true hn) (wk_w (wk_mono h fun s w h => h))

/-- Slots that are known. -/
def St.with (s : St) : List (Nat × Value) → St
  | [] => s
  | (k, v) :: l => (s.with l).set k v

def Has (s : St) : List (Nat × Value) → Prop
  | [] => True
  | (k, v) :: l => s.t k = v ∧ Has s l

theorem with_of_has {s : St} : ∀ {l : List (Nat × Value)}, Has s l → s.with l = s
  | [], _ => rfl
  | (k, v) :: l, h => by
    simp only [St.with]
    rw [with_of_has h.2]
    ext i
    · rw [St.set_t]; split
      · rename_i hi; subst hi; exact h.1.symm
      · rfl
    · rfl

theorem with_d (s : St) : ∀ (l : List (Nat × Value)), (s.with l).d = s.d
  | [] => rfl
  | (k, v) :: l => with_d s l

section
variable {K : St → World → Prop} {Q : Ex} {s : St} {w : World}

theorem wk_loopH {α : Type} {c : Code} (ds : List Deferred) (hd0 : s.d = ds) (L : α → List (Nat × Value)) (J : α → World → Prop) (μ : α → Nat) (x₀ : α) (h₀ : Has s (L x₀)) (hJ : J x₀ w)
    (round : ∀ x t w, J x w → WK P r n c (fun s' w' => ∃ x', Has s' (L x') ∧ s'.d = ds ∧ J x' w' ∧ μ x' < μ x) Q ((⟨t, ds⟩ : St).with (L x)) w) : WK P r n (.loop c) K Q s w := by
  subst hd0
  exact wk_loop (fun x s' w => Has s' (L x) ∧ s'.d = s.d ∧ J x w) μ x₀ ⟨h₀, rfl, hJ⟩ fun x s' w ⟨hs, hd, hJ⟩ => by
    have h := round x s'.t w hJ
    have e : (⟨s'.t, s.d⟩ : St) = s' := by cases s'; simp only at hd; subst hd; rfl
    rw [e, with_of_has hs] at h
    exact wk_mono h fun s w ⟨x', h1, h2, h3, h4⟩ => ⟨x', ⟨h1, h2, h3⟩, h4⟩

theorem wk_cut {α : Type} {c : Code} (ds : List Deferred) (L : α → List (Nat × Value)) (J : α → World → Prop) (h1 : WK P r n c (fun s' w' => ∃ x, Has s' (L x) ∧ s'.d = ds ∧ J x w') Q s w)
    (h2 : ∀ x t w', J x w' → K ((⟨t, ds⟩ : St).with (L x)) w') : WK P r n c K Q s w :=
  wk_mono h1 fun s' w' ⟨x, hs, hd, hJ⟩ => by
    have h := h2 x s'.t w' hJ
    have e : (⟨s'.t, ds⟩ : St) = s' := by cases s'; simp only at hd; subst hd; rfl
    rw [e, with_of_has hs] at h
    exact h

theorem opsL_mono {ops : Array Oper} {K K' : St → World → Prop} {X : List PanicEntry → St → World → Prop} (hk : ∀ s w, K s w → K' s w) : ∀ {l : List Oper} {s : St} {w : World}, OpsL P r n ops K X l s w → OpsL P r n ops K' X l s w
  | [], _, _, h => hk _ _ h
  | o :: l, s, w, h => by
    simp only [OpsL] at h ⊢
    split
    · rename_i hw; rw [if_pos hw] at h; exact opW_mono (fun s w h => opsL_mono hk h) (fun _ _ h => h) h
    · rename_i hw; rw [if_neg hw] at h; exact opsL_mono hk h

/-- A cut within a region. -/
theorem o_cut {α : Type} {ops : Array Oper} {X : List PanicEntry → St → World → Prop} {l : List Oper} (ds : List Deferred) (L : α → List (Nat × Value)) (J : α → World → Prop) (h1 : OpsL P r n ops (fun s' w' => ∃ x, Has s' (L x) ∧ s'.d = ds ∧ J x w') X l s w)
    (h2 : ∀ x t w', J x w' → K ((⟨t, ds⟩ : St).with (L x)) w') : OpsL P r n ops K X l s w :=
  opsL_mono (fun s' w' ⟨x, hs, hd, hJ⟩ => by
    have h := h2 x s'.t w' hJ
    have e : (⟨s'.t, ds⟩ : St) = s' := by cases s'; simp only at hd; subst hd; rfl
    rw [e, with_of_has hs] at h
    exact h) h1
end

theorem set_t_ne (s : St) {k i : Nat} (v : Value) (h : Nat.beq i k = false) : (s.set k v).t i = s.t i := by
  have : i ≠ k := fun e => by subst e; simp at h
  rw [St.set_t, if_neg this]
theorem set_t_same (s : St) (k : Nat) (v : Value) : (s.set k v).t k = v := by rw [St.set_t, if_pos rfl]
attribute [irreducible] WK
end Go.Pd
