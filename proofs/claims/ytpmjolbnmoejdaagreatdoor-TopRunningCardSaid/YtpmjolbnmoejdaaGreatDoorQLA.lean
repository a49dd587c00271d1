/-
  A layer of symbolic execution over the kit's 'wpIn': temporaries as a function, regions, calls, loops.
-/
import Derived.RangeFuncLeaves
import Derived.RangeFuncRecord
import Derived.OrdersIn
import Derived.Laws.AppendOwn
set_option linter.unusedSimpArgs false
set_option linter.unnecessarySimpa false
set_option maxRecDepth 10000
set_option linter.unusedVariables false
namespace Go.Pd

abbrev FR (r : Option Nat) : Fence := { fn := fun _ => True, depth := none, alive := false, round := r }

theorem room_FR (r : Option Nat) (n : Nat) : (FR r).room n := fun _ h => by simp at h

def To (w w' : World) (hp : Array Obj) : Prop := w'.heap = hp ∧ w'.os = w.os ∧ w'.output = w.output
def SetAt (w w' : World) (L : Nat) (o : Obj) : Prop := To w w' (w.heap.setIfInBounds L o)

structure St where
  t : Nat → Value
  d : List Deferred

theorem beq_ne {i k : Nat} (h : i ≠ k) : Nat.beq i k = false := by
  cases hb : Nat.beq i k
  · rfl
  · exact absurd (Nat.eq_of_beq_eq_true hb) h
theorem blt_t {i k : Nat} (h : i < k) : Nat.blt i k = true := Nat.ble_eq_true_of_le h
theorem blt_f {i k : Nat} (h : ¬ i < k) : Nat.blt i k = false := by
  cases hb : Nat.blt i k
  · rfl
  · exact absurd (Nat.le_of_ble_eq_true hb) h

def St.set (s : St) (k : Nat) (v : Value) : St := ⟨fun i => bif Nat.beq i k then v else s.t i, s.d⟩
def St.put (s : St) : Option Nat → Value → St
  | some k, v => s.set k v
  | none, _ => s

@[ext] theorem St.ext {a b : St} (h : ∀ i, a.t i = b.t i) (hd : a.d = b.d) : a = b := by
  cases a; cases b; simp only [St.mk.injEq]; exact ⟨funext h, hd⟩

theorem St.set_t (s : St) (k : Nat) (v : Value) (i : Nat) : (s.set k v).t i = if i = k then v else s.t i := by
  unfold St.set
  by_cases h : i = k
  · subst h; simp
  · simp [beq_ne h, h]

structure Fits (n : Nat) (s : St) (a : Act) : Prop where
  size : a.tmps.size = n
  val : ∀ i, i < n → a.tmps.getD i undef = s.t i
  defs : a.defers = s.d

def rd (n : Nat) (s : St) : Operand → Value
  | .tmp i => bif Nat.blt i n then s.t i else undef
  | .const v => v
  | .global g => .pointer (some ⟨g, 0, none⟩)
  | .func f => .func (.func f) #[] #[]

theorem Fits.eval {n : Nat} {s : St} {a : Act} (h : Fits n s a) : a.eval = rd n s := by
  funext x
  cases x with
  | tmp i =>
    simp only [Act.eval, rd]
    by_cases hi : i < n
    · rw [blt_t hi]; exact h.val i hi
    · rw [blt_f hi]
      have hs := h.size
      simp [Array.getD, hs, hi]
  | _ => rfl

theorem Fits.put {n : Nat} {s : St} {a : Act} (h : Fits n s a) (d : Option Nat) (v : Value) : Fits n (s.put d v) (a.put d v) := by
  cases d with
  | none => exact h
  | some k =>
    refine ⟨by simp [Act.put, h.size], fun i hi => ?_, h.defs⟩
    have hv := h.val i hi
    have hs := h.size
    show (a.tmps.setIfInBounds k v).getD i undef = (s.set k v).t i
    rw [St.set_t]
    by_cases hk : i = k
    · subst hk
      rw [if_pos rfl]
      simp [Array.getD, hs, hi]
    · rw [if_neg hk, ← hv]
      simp only [Array.getD_eq_getD_getElem?]
      rw [Array.getElem?_setIfInBounds_ne (fun e => hk e.symm)]

theorem Fits.defer {n : Nat} {s : St} {a : Act} (h : Fits n s a) (d : Deferred) : Fits n { s with d := d :: s.d } { a with defers := d :: a.defers } :=
  ⟨h.size, h.val, by simp [h.defs]⟩

def yieldedE (ops : Array Oper) (n : Nat) (s : St) (j : Nat) : Option Bool :=
  match (ops[j]?).bind (·.dst) with
  | some d => bif Nat.blt d n then (match s.t d with | .bool b => some b | _ => none) else none
  | none => none

theorem Fits.yielded {n : Nat} {s : St} {a : Act} (h : Fits n s a) (ops : Array Oper) : yielded ops a.tmps = yieldedE ops n s := by
  funext j
  unfold Go.yielded yieldedE
  cases hd : (ops[j]?).bind (·.dst) with
  | none => rfl
  | some d =>
    simp only [Option.bind_some]
    by_cases hi : d < n
    · have hb : Nat.blt d n = true := blt_t hi
      have hv := h.val d hi
      have hs := h.size
      rw [hb]
      simp only [cond_true]
      rw [← hv]
      have hlt : d < a.tmps.size := hs.symm ▸ hi
      simp only [Array.getD, hlt, dite_true]
      rw [Array.getElem?_eq_getElem hlt]
      show (match some a.tmps[d] with | some (Value.bool b) => some b | _ => none) = (match a.tmps[d] with | Value.bool b => some b | _ => none)
      cases a.tmps[d] <;> rfl
    · have hb : Nat.blt d n = false := blt_f hi
      rw [hb]
      have hs := h.size
      rw [Array.getElem?_eq_none (hs ▸ Nat.le_of_not_lt hi)]
      rfl

def OpW (P : Program) (r : Option Nat) (n : Nat) (o : Oper) (s : St) (w : World) (K : St → World → Prop) (X : List PanicEntry → World → Prop) : Prop :=
  match (o.semAt r (rd n s)).run P w with
  | .ok (.value v) w' => K (s.put o.dst v) w'
  | .ok .skip w' => K (s.put o.dst undef) w'
  | .ok (.defer d) w' => K (({ s with d := d :: s.d } : St).put o.dst undef) w'
  | .ok (.enter f args) w' => Calls P f args w' fun
      | .returned v, w'' => K (s.put o.dst v) w''
      | .panicked ch, w'' => X ch w''
      | .outgrown, _ => False
  | .ok (.round l f tmps assign body) w' => RoundIn (FR none) 0 P l f tmps assign body w' fun
      | .returned v, w'' => K (s.put o.dst v) w''
      | .panicked ch, w'' => X ch w''
      | .outgrown, _ => False
  | .halt (.panic v) w' => X [{ v, recovered := false }] w'
  | _ => False

def Ops (P : Program) (r : Option Nat) (n : Nat) (ops : Array Oper) (K : St → World → Prop) (X : List PanicEntry → St → World → Prop) : List Nat → St → World → Prop
  | [], s, w => K s w
  | i :: l, s, w =>
    match ops[i]? with
    | none => Ops P r n ops K X l s w
    | some o =>
      if Region.wanted o (yieldedE ops n s) then OpW P r n o s w (fun s' w' => Ops P r n ops K X l s' w') (fun ch w' => X ch s w')
      else Ops P r n ops K X l (s.put o.dst undef) w

def W (P : Program) (r : Option Nat) (n : Nat) (c : Code) (Q : Exit → St → World → Prop) (s : St) (w : World) : Prop :=
  ∀ a, Fits n s a → c.wpIn (FR r) 0 P (fun e a' w' => ∃ s', Fits n s' a' ∧ Q e s' w') a w

section
variable {P : Program} {r : Option Nat} {n : Nat}

theorem opW_mono {o : Oper} {s : St} {w : World} {K K' : St → World → Prop} {X X' : List PanicEntry → World → Prop} (hk : ∀ s w, K s w → K' s w) (hx : ∀ c w, X c w → X' c w)
    (h : OpW P r n o s w K X) : OpW P r n o s w K' X' := by
  unfold OpW at *
  generalize (o.semAt r (rd n s)).run P w = res at *
  cases res with
  | ok m w' =>
    cases m <;> simp only at h ⊢ <;>
      first
        | exact hk _ _ h
        | exact Calls.mono h (fun e w'' he => by cases e <;> first | exact hk _ _ he | exact hx _ _ he | exact he)
        | exact RoundIn.mono h (fun e w'' he => by cases e <;> first | exact hk _ _ he | exact hx _ _ he | exact he)
        | exact h
  | halt x w' => cases x <;> simp only at h ⊢ <;> first | exact hx _ _ h | exact h

theorem ops_sound (ops : Array Oper) {K : St → World → Prop} {X : List PanicEntry → St → World → Prop} {Q : Exit → Act → World → Prop}
    (hK : ∀ s a w, Fits n s a → K s w → Q .normal a w) (hX : ∀ c s a w, Fits n s a → X c s w → Q (.panic c) a w) : ∀ (l : List Nat) (s : St) (a : Act) (w : World), Fits n s a →
    Ops P r n ops K X l s w → wpOpsIn (FR r) 0 P ops Q l a w
  | [], s, a, w, hf, h => hK s a w hf h
  | i :: l, s, a, w, hf, h => by
    simp only [Ops] at h
    simp only [wpOpsIn]
    cases ho : ops[i]? with
    | none => simp only [ho] at h; exact ops_sound ops hK hX l s a w hf h
    | some o =>
      simp only [ho] at h
      rw [hf.yielded]
      by_cases hw : Region.wanted o (yieldedE ops n s) = true
      · simp only [hw, if_true] at h ⊢
        refine ⟨fun _ _ => trivial, ?_⟩
        rw [hf.eval]
        unfold OpW at h
        show Oper.uponIn (FR r) 0 P o a _ _ ((o.semAt r (rd n s)).run P w)
        generalize (o.semAt r (rd n s)).run P w = res at *
        cases res with
        | ok m w' =>
          cases m <;> simp only [Oper.uponIn] at h ⊢
          case value v => exact ops_sound ops hK hX l _ _ _ (hf.put _ _) h
          case skip => exact ops_sound ops hK hX l _ _ _ (hf.put _ _) h
          case defer d => exact ops_sound ops hK hX l _ _ _ ((hf.defer d).put _ _) h
          case enter f args =>
            refine ⟨fun h0 => by simp at h0, ?_⟩
            have h1 : CallsIn Fence.wide 0 P f args w' _ := (callsIn_wide (n := 0)).2 h
            refine (show CallsIn (FR r) 0 P f args w' _ from ⟨trivial, fun cs hr => ?_⟩)
            obtain ⟨e, w2, fr, hR, hc, hfn, hl⟩ := h1.2 cs (room_wide _)
            refine ⟨e, w2, fr, ?_, hc, hfn, hl⟩
            cases e with
            | returned v => exact ops_sound ops hK hX l _ _ _ (hf.put _ _) hR
            | panicked ch => exact hX _ _ _ _ hf hR
            | outgrown => exact hR.elim
          case round lp f tmps asn body =>
            refine ⟨fun h0 => by simp at h0, trivial, fun c cs hr => ?_⟩
            obtain ⟨e, w2, hR, hc⟩ := h.2 c cs (room_FR none _)
            refine ⟨e, w2, ?_, hc⟩
            cases e with
            | returned v => exact ops_sound ops hK hX l _ _ _ (hf.put _ _) hR
            | panicked ch => exact hX _ _ _ _ hf hR
            | outgrown => exact hR.elim
        | halt x w' =>
          cases x <;> simp only [Oper.uponIn] at h ⊢
          exact hX _ _ _ _ hf h
      · simp only [hw] at h ⊢
        exact ⟨fun _ _ => trivial, ops_sound ops hK hX l _ _ _ (hf.put _ _) h⟩

variable {Q : Exit → St → World → Prop} {s : St} {w : World}

theorem w_mono {c : Code} {Q' : Exit → St → World → Prop} (h : W P r n c Q s w) (hq : ∀ e s w, Q e s w → Q' e s w) : W P r n c Q' s w :=
  fun a hf => wpIn_mono (h a hf) fun _ _ _ ⟨s', hf', hQ⟩ => ⟨s', hf', hq _ _ _ hQ⟩

theorem w_region {id : Nat} {ops : Array Oper} (h : Ops P r n ops (Q .normal) (fun c => Q (.panic c)) (List.range ops.size) s w) : W P r n (.region id ops false) Q s w :=
  fun a hf => wpIn_region (ops_sound ops (fun s a w hf h => ⟨s, hf, h⟩) (fun c s a w hf h => ⟨s, hf, h⟩) _ s a w hf h)

theorem w_region_draw {id : Nat} {ops : Array Oper} (h : ∀ t w', To w w' w.heap → Ops P r n ops (Q .normal) (fun c => Q (.panic c)) (Region.schedule (P.follows .mixedOrders) ops t) s w') : W P r n (.region id ops true) Q s w :=
  fun a hf => wpIn_region_draw fun t => ops_sound ops (fun s a w hf h => ⟨s, hf, h⟩) (fun c s a w hf h => ⟨s, hf, h⟩) _ s a _ hf (h t _ ⟨rfl, rfl, rfl⟩)

theorem w_skip (h : Q .normal s w) : W P r n .skip Q s w := fun _ hf => wpIn_skip ⟨s, hf, h⟩
theorem w_label {l : Nat} (h : Q .normal s w) : W P r n (.label l) Q s w := fun _ hf => wpIn_label ⟨s, hf, h⟩
theorem w_exit {id : Nat} (h : Q (.exit id) s w) : W P r n (.exit id) Q s w := fun _ hf => wpIn_exit ⟨s, hf, h⟩
theorem w_ret (h : Q .ret s w) : W P r n .ret Q s w := fun _ hf => wpIn_ret ⟨s, hf, h⟩

def ThenQ (K : St → World → Prop) (Q : Exit → St → World → Prop) : Exit → St → World → Prop
  | .normal, s, w => K s w
  | e, s, w => Q e s w

theorem w_seq {x y : Code} (h : W P r n x (ThenQ (W P r n y Q) Q) s w) : W P r n (.seq x y) Q s w := fun a hf => wpIn_seq (wpIn_mono (h a hf) fun e a' w' ⟨s', hf', hQ⟩ => by
  cases e with
  | normal => exact hQ a' hf'
  | _ => exact ⟨s', hf', hQ⟩)

theorem w_cond {c : Operand} {x y : Code} {b : Bool} (hc : rd n s c = .bool b) (ht : b = true → W P r n x Q s w) (hf' : b = false → W P r n y Q s w) : W P r n (.cond c x y) Q s w :=
  fun a hf => wpIn_cond_split (t := b) (by rw [hf.eval]; exact hc) (fun e => ht e a hf) (fun e => hf' e a hf)
theorem w_cond_t {c : Operand} {x y : Code} (hc : rd n s c = .bool true) (h : W P r n x Q s w) : W P r n (.cond c x y) Q s w := w_cond hc (fun _ => h) (fun e => by cases e)
theorem w_cond_f {c : Operand} {x y : Code} (hc : rd n s c = .bool false) (h : W P r n y Q s w) : W P r n (.cond c x y) Q s w := w_cond hc (fun e => by cases e) (fun _ => h)

def BlockQ (id : Nat) (Q : Exit → St → World → Prop) : Exit → St → World → Prop
  | .exit id', s, w => if id' = id then Q .normal s w else Q (.exit id') s w
  | e, s, w => Q e s w

theorem w_block {id : Nat} {c : Code} (h : W P r n c (BlockQ id Q) s w) : W P r n (.block id c) Q s w := fun a hf => wpIn_block (wpIn_mono (h a hf) fun e a' w' ⟨s', hf', hQ⟩ => by
  cases e with
  | exit id' =>
    simp only [BlockQ] at hQ
    simp only [Exit.inBlock]
    by_cases hid : id' = id
    · simp only [hid, if_true] at hQ ⊢; exact ⟨s', hf', hQ⟩
    · simp only [hid, if_false] at hQ ⊢; exact ⟨s', hf', hQ⟩
  | _ => exact ⟨s', hf', hQ⟩)

theorem wpIn_loop_ghost {α : Type} {c : Code} {QA : Exit → Act → World → Prop} (I : α → Act → World → Prop) (μ : α → Nat)
    (round : ∀ x a w, I x a w → c.wpIn (FR r) 0 P (Exit.then (fun a' w' => ∃ x', I x' a' w' ∧ μ x' < μ x) QA) a w) {x₀ : α} {a₀ : Act} {w₀ : World} (h₀ : I x₀ a₀ w₀) : (Code.loop c).wpIn (FR r) 0 P QA a₀ w₀ := by
  intro b k cs hro hb hr
  have key : ∀ j x a w, μ x = j → I x a w →
      ∃ e a' w', QA e a' w' ∧ ArrivesIn (Machine.fenced P (FR r)) P (lone (b.atR a (.code c :: .inLoop c :: k)) cs w) b k cs e a' w' := by
    intro j
    induction j using Nat.strongRecOn with
    | _ j ih =>
      intro x a w hn hI
      obtain ⟨e, a₁, w₁, hq, harr⟩ := round x a w hI b (.inLoop c :: k) cs hro hb hr
      cases e with
      | normal =>
        obtain ⟨x₁, hI₁, hlt⟩ := hq
        obtain ⟨e₂, a₂, w₂, hq₂, harr₂⟩ := ih (μ x₁) (hn ▸ hlt) x₁ a₁ w₁ rfl hI₁
        exact ⟨e₂, a₂, w₂, hq₂, .of_steps (StepsIn.trans harr (.one (fenced_calm hb hr rfl) stepR_inLoop)) harr₂⟩
      | exit id => exact ⟨_, a₁, w₁, hq, .pass (x := .inLoop c) rfl (fun _ _ => .inl (by simp)) harr⟩
      | goto l => exact ⟨_, a₁, w₁, hq, .pass (x := .inLoop c) rfl (fun _ _ => .inl (by simp)) harr⟩
      | ret => exact ⟨_, a₁, w₁, hq, .pass (x := .inLoop c) rfl (fun _ _ => .inl (by simp)) harr⟩
      | panic ch => exact ⟨_, a₁, w₁, hq, .pass (x := .inLoop c) rfl (fun _ _ => .inl (by simp)) harr⟩
      | outgrown => exact ⟨_, a₁, w₁, hq, .pass (x := .inLoop c) rfl (fun _ _ => .inl (by simp)) harr⟩
  obtain ⟨e, a', w', hq, harr⟩ := key _ x₀ a₀ w₀ rfl h₀
  exact ⟨e, a', w', hq, .of_steps (.one (fenced_calm hb hr rfl) stepR_loop) harr⟩

theorem w_loop {α : Type} {c : Code} (I : α → St → World → Prop) (μ : α → Nat) (x₀ : α) (h₀ : I x₀ s w)
    (round : ∀ x s w, I x s w → W P r n c (ThenQ (fun s' w' => ∃ x', I x' s' w' ∧ μ x' < μ x) Q) s w) : W P r n (.loop c) Q s w := fun a hf =>
  wpIn_loop_ghost (fun x a w => ∃ s, Fits n s a ∧ I x s w) μ (fun x a w ⟨s, hf, hI⟩ => wpIn_mono (round x s w hI a hf) fun e a' w' ⟨s', hf', hQ⟩ => by
    cases e with
    | normal => obtain ⟨x', hI', hlt⟩ := hQ; exact ⟨x', ⟨s', hf', hI'⟩, hlt⟩
    | _ => exact ⟨s', hf', hQ⟩) ⟨s, hf, h₀⟩

def st0 (args : Array Value) : St := ⟨fun i => args.getD i undef, []⟩

def RetQ (P : Program) (fn : Func) (n : Nat) (R : Value → World → Prop) : Exit → St → World → Prop
  | .normal, s, w | .ret, s, w => ∀ a, Fits n s a → LeavesInM (FR none) 0 P fn a.tmps (fun e w' => ∃ v, e = .returned v ∧ R v w') s.d .returning w
  | _, _, _ => False

theorem calls_of_w {f : FuncId} {fn : Func} {c : Code} {args : Array Value} {w : World} {R : Value → World → Prop}
    (hf : P.funcs[f]? = some fn) (hb : fn.body = some c) (hn : args.size ≤ fn.ntmps)
    (h : W P none fn.ntmps c (RetQ P fn fn.ntmps R) (st0 args) w) : Calls P f args w (fun e w' => ∃ v, e = .returned v ∧ R v w') := by
  refine (callsIn_wide (n := 0)).1 (callsIn_of_wp_marks hf hb trivial ?_)
  refine wpIn_mono (h { tmps := args ++ Array.replicate (fn.ntmps - args.size) undef, defers := [] } ⟨by simp; omega, fun i hi => ?_, rfl⟩) ?_
  · show (args ++ Array.replicate (fn.ntmps - args.size) undef).getD i undef = args.getD i undef
    simp only [Array.getD_eq_getD_getElem?, Array.getElem?_append, Array.getElem?_replicate]
    by_cases h1 : i < args.size
    · simp [h1]
    · simp [h1]
      split <;> simp
  · rintro e a' w' ⟨s', hf', hQ⟩
    cases e with
    | normal => have := hQ a' hf'; rw [← hf'.defs] at this; exact this
    | ret => have := hQ a' hf'; rw [← hf'.defs] at this; exact this
    | _ => exact hQ.elim

theorem leaves_nil {fn : Func} {tmps : Array Value} {R : Ending → World → Prop} {v : Value} {w : World} (h : (results fn tmps).run P w = .ok v w) (hR : R (.returned v) w) :
    LeavesInM (FR none) 0 P fn tmps R [] .returning w := ⟨v, h, hR⟩

theorem retQ_tmp1 {fn : Func} {R : Value → World → Prop} {k : Nat} {v : Value} (hr : fn.results = #[.tmp k]) (hk : k < n) (hd : s.d = []) (hv : s.t k = v) (hR : R v w) : RetQ P fn n R .ret s w := by
  intro a hf
  rw [hd]
  refine leaves_nil (v := v) ?_ ⟨v, rfl, hR⟩
  have := hf.val k hk
  rw [hv] at this
  simp only [results, hr]
  simp only [Array.getD_eq_getD_getElem?] at this
  simp [this, pure, Sem.run]

theorem retQ_tmp0 {fn : Func} {R : Value → World → Prop} (hr : fn.results = #[]) (hd : s.d = []) (hR : R (.tuple #[]) w) : RetQ P fn n R .ret s w := by
  intro a hf
  rw [hd]
  refine leaves_nil (v := .tuple #[]) ?_ ⟨_, rfl, hR⟩
  simp only [results, hr]
  simp [pure, Sem.run]

theorem retQ_tmp2 {fn : Func} {R : Value → World → Prop} {k l : Nat} {v u : Value} (hr : fn.results = #[.tmp k, .tmp l]) (hk : k < n) (hl : l < n) (hd : s.d = []) (hv : s.t k = v) (hu : s.t l = u) (hR : R (.tuple #[v, u]) w) : RetQ P fn n R .ret s w := by
  intro a hf
  rw [hd]
  refine leaves_nil (v := .tuple #[v, u]) ?_ ⟨_, rfl, hR⟩
  have h1 := hf.val k hk
  have h2 := hf.val l hl
  rw [hv] at h1
  rw [hu] at h2
  simp only [results, hr]
  simp only [Array.getD_eq_getD_getElem?] at h1 h2
  simp [h1, h2, pure, Sem.run]

end
end Go.Pd

/-
  One lemma an operation, over heaps that are known in part.
-/
set_option linter.unusedSimpArgs false
set_option linter.unnecessarySimpa false
set_option maxRecDepth 10000
set_option linter.unusedVariables false
namespace Go.Pd
variable {P : Program} {r : Option Nat} {n : Nat}

/-! ### Regions as lists -/

def OpsL (P : Program) (r : Option Nat) (n : Nat) (ops : Array Oper) (K : St → World → Prop) (X : List PanicEntry → St → World → Prop) : List Oper → St → World → Prop
  | [], s, w => K s w
  | o :: l, s, w =>
      if Region.wanted o (yieldedE ops n s) then OpW P r n o s w (fun s' w' => OpsL P r n ops K X l s' w') (fun ch w' => X ch s w')
      else OpsL P r n ops K X l (s.put o.dst undef) w

theorem opsL_ops {ops : Array Oper} {K : St → World → Prop} {X : List PanicEntry → St → World → Prop} : ∀ (l : List Oper) (k : Nat) (s : St) (w : World), (∀ j, l[j]? = ops[k + j]?) →
    OpsL P r n ops K X l s w → Ops P r n ops K X (List.range' k l.length) s w
  | [], k, s, w, _, h => h
  | o :: l, k, s, w, hl, h => by
    have h0 : ops[k]? = some o := by have := hl 0; simpa using this.symm
    have hr : ∀ j, l[j]? = ops[k + 1 + j]? := fun j => by have := hl (j + 1); simpa [Nat.add_comm, Nat.add_left_comm, Nat.add_assoc] using this
    simp only [List.length_cons, List.range'_succ, Ops, h0]
    simp only [OpsL] at h
    split
    · rename_i hw
      rw [if_pos hw] at h
      exact opW_mono (fun s w h => opsL_ops l (k + 1) s w hr h) (fun _ _ h => h) h
    · rename_i hw
      rw [if_neg hw] at h
      exact opsL_ops l (k + 1) _ w hr h

theorem w_regionL {id : Nat} {l : List Oper} {Q : Exit → St → World → Prop} {s : St} {w : World} (h : OpsL P r n l.toArray (Q .normal) (fun c => Q (.panic c)) l s w) : W P r n (.region id l.toArray false) Q s w := by
  refine w_region ?_
  have := opsL_ops l 0 s w (fun j => by simp) h
  simpa [List.range_eq_range'] using this

/-! ### Reading the temporaries -/

theorem rd_const (s : St) (v : Value) : rd n s (.const v) = v := rfl
theorem rd_func (s : St) (f : FuncId) : rd n s (.func f) = .func (.func f) #[] #[] := rfl
theorem put_some (s : St) (k : Nat) (v : Value) : s.put (some k) v = s.set k v := rfl
section
variable {ops : Array Oper} {K : St → World → Prop} {X : List PanicEntry → St → World → Prop} {l : List Oper} {s : St} {w : World} {o : Oper}

theorem o_nil (h : K s w) : OpsL P r n ops K X [] s w := h

theorem o_wanted (hw : Region.wanted o (yieldedE ops n s) = true) (h : OpW P r n o s w (fun s' w' => OpsL P r n ops K X l s' w') (fun ch w' => X ch s w')) : OpsL P r n ops K X (o :: l) s w := by
  simp only [OpsL, hw, if_true]; exact h

theorem o_skip (hw : Region.wanted o (yieldedE ops n s) = false) (h : OpsL P r n ops K X l (s.put o.dst undef) w) : OpsL P r n ops K X (o :: l) s w := by
  simp only [OpsL, hw]; exact h

theorem o_val0 {v : Value} {w' : World} (hw : Region.wanted o (yieldedE ops n s) = true) (h : (o.semAt r (rd n s)).run P w = .ok (.value v) w') (hk : OpsL P r n ops K X l (s.put o.dst v) w') : OpsL P r n ops K X (o :: l) s w := by
  refine o_wanted hw ?_
  unfold OpW
  rw [h]
  exact hk

theorem o_unit0 {w' : World} (hw : Region.wanted o (yieldedE ops n s) = true) (h : (o.semAt r (rd n s)).run P w = .ok .skip w') (hk : OpsL P r n ops K X l (s.put o.dst undef) w') : OpsL P r n ops K X (o :: l) s w := by
  refine o_wanted hw ?_
  unfold OpW
  rw [h]
  exact hk

variable {k : Nat} {op : Op} {ty : TypeId} {p : String} {af : Array Edge} {g : Option (Nat × Bool)}

theorem o_pur {v : Value} (hw : Region.wanted ⟨some k, op, ty, p, af, g⟩ (yieldedE ops n s) = true) (h : ∀ w, (Oper.semAt r (rd n s) ⟨some k, op, ty, p, af, g⟩).run P w = .ok (.value v) w) (hk : OpsL P r n ops K X l (s.set k v) w) :
    OpsL P r n ops K X (⟨some k, op, ty, p, af, g⟩ :: l) s w := o_val0 hw (h w) hk

theorem o_not (hw : Region.wanted ⟨some k, op, ty, p, af, g⟩ (yieldedE ops n s) = false) (hk : OpsL P r n ops K X l (s.set k undef) w) : OpsL P r n ops K X (⟨some k, op, ty, p, af, g⟩ :: l) s w := o_skip hw hk

theorem o_mov {x : Operand} {v : Value} (hw : Region.wanted ⟨some k, .move x, ty, p, af, g⟩ (yieldedE ops n s) = true) (hx : rd n s x = v) (hk : OpsL P r n ops K X l (s.set k v) w) :
    OpsL P r n ops K X (⟨some k, .move x, ty, p, af, g⟩ :: l) s w := by
  subst hx
  refine o_pur hw (fun w => ?_) hk
  rw [Oper.semAt_eq _ _ _ (fun c e => by cases e)]
  rfl

theorem o_asg {x : Operand} {v : Value} (hw : Region.wanted ⟨some k, .assign x, ty, p, af, g⟩ (yieldedE ops n s) = true) (hx : rd n s x = v) (hk : OpsL P r n ops K X l (s.set k v) w) :
    OpsL P r n ops K X (⟨some k, .assign x, ty, p, af, g⟩ :: l) s w := by
  subst hx
  refine o_pur hw (fun w => ?_) hk
  rw [Oper.semAt_eq _ _ _ (fun c e => by cases e)]
  rfl

theorem o_pick {c a b : Operand} {t : Bool} {v u : Value} (hw : Region.wanted ⟨some k, .pick c a b, ty, p, af, g⟩ (yieldedE ops n s) = true) (hc : rd n s c = .bool t) (ha : rd n s a = v) (hb : rd n s b = u) (hk : OpsL P r n ops K X l (s.set k (bif t then v else u)) w) :
    OpsL P r n ops K X (⟨some k, .pick c a b, ty, p, af, g⟩ :: l) s w := by
  subst ha hb
  refine o_pur hw (fun w => ?_) hk
  rw [Oper.semAt_eq _ _ _ (fun c e => by cases e)]
  simp only [execOp, hc, asBool]
  cases t <;> rfl

theorem o_pick_t {c a b : Operand} {v : Value} (hw : Region.wanted ⟨some k, .pick c a b, ty, p, af, g⟩ (yieldedE ops n s) = true) (hc : rd n s c = .bool true) (ha : rd n s a = v) (hk : OpsL P r n ops K X l (s.set k v) w) :
    OpsL P r n ops K X (⟨some k, .pick c a b, ty, p, af, g⟩ :: l) s w := o_pick hw hc ha rfl hk
theorem o_pick_f {c a b : Operand} {v : Value} (hw : Region.wanted ⟨some k, .pick c a b, ty, p, af, g⟩ (yieldedE ops n s) = true) (hc : rd n s c = .bool false) (hb : rd n s b = v) (hk : OpsL P r n ops K X l (s.set k v) w) :
    OpsL P r n ops K X (⟨some k, .pick c a b, ty, p, af, g⟩ :: l) s w := o_pick hw hc rfl hb hk

theorem o_ext {x : Operand} {i : Nat} {vs : Array Value} {v : Value} (hw : Region.wanted ⟨some k, .extract x i, ty, p, af, g⟩ (yieldedE ops n s) = true) (hx : rd n s x = .tuple vs) (hv : vs[i]? = some v) (hk : OpsL P r n ops K X l (s.set k v) w) :
    OpsL P r n ops K X (⟨some k, .extract x i, ty, p, af, g⟩ :: l) s w := by
  refine o_pur hw (fun w => ?_) hk
  rw [Oper.semAt_eq _ _ _ (fun c e => by cases e)]
  simp only [execOp, hx, Instr.extract, hv]
  rfl

theorem o_nilc {x : Operand} {a : Addr} (hw : Region.wanted ⟨some k, .nilCheck x, ty, p, af, g⟩ (yieldedE ops n s) = true) (hx : rd n s x = .pointer (some a)) (hk : OpsL P r n ops K X l (s.set k (.pointer (some a))) w) :
    OpsL P r n ops K X (⟨some k, .nilCheck x, ty, p, af, g⟩ :: l) s w := by
  refine o_pur hw (fun w => ?_) hk
  rw [Oper.semAt_eq _ _ _ (fun c e => by cases e)]
  simp only [execOp, hx]
  rfl

section
variable {bo : BinOp} {uo : UnOp} {x y : Operand} {xt yt : TypeId} {v : Value} {kk kl : IntKind} {a b : Int}

def binI (bo : BinOp) (kk : IntKind) (a b : Int) : Option Value :=
  match bo with
  | .add => some (.int kk (kk.wrap (a + b)))
  | .sub => some (.int kk (kk.wrap (a - b)))
  | .mul => some (.int kk (kk.wrap (a * b)))
  | .eql => some (.bool (decide (a = b)))
  | .neq => some (.bool (decide (a ≠ b)))
  | .lss => some (.bool (decide (a < b)))
  | .leq => some (.bool (decide (a ≤ b)))
  | .gtr => some (.bool (decide (a > b)))
  | .geq => some (.bool (decide (a ≥ b)))
  | _ => none

theorem o_binI (hw : Region.wanted ⟨some k, .binOp bo xt x y yt, ty, p, af, g⟩ (yieldedE ops n s) = true) (hx : rd n s x = .int kk a) (hy : rd n s y = .int kk b) (hv : binI bo kk a b = some v) (hk : OpsL P r n ops K X l (s.set k v) w) :
    OpsL P r n ops K X (⟨some k, .binOp bo xt x y yt, ty, p, af, g⟩ :: l) s w := by
  refine o_pur hw (fun w => ?_) hk
  rw [Oper.semAt_eq _ _ _ (fun c e => by cases e)]
  cases bo <;> simp only [binI, Option.some.injEq, reduceCtorEq] at hv <;> subst hv <;> simp [execOp, hx, hy, eqGuard, binOp, Op.intArith, Op.intCmp, bind, Sem.bind, pure, Sem.run, BEq.beq, bne, decide_not]

def binN (bo : BinOp) (a b : Int) : Option Int :=
  match bo with
  | .add => some (a + b)
  | .sub => some (a - b)
  | .mul => some (a * b)
  | _ => none

theorem wrap_i64 {x : Int} (h : -9223372036854775808 ≤ x ∧ x ≤ 9223372036854775807) : IntKind.wrap .i64 x = x := by
  simp only [IntKind.wrap, IntKind.bits, IntKind.signed]
  simp
  omega

theorem o_binN {c : Int} (hw : Region.wanted ⟨some k, .binOp bo xt x y yt, ty, p, af, g⟩ (yieldedE ops n s) = true) (hx : rd n s x = .int .i64 a) (hy : rd n s y = .int .i64 b) (hv : binN bo a b = some c) (hc : -9223372036854775808 ≤ c ∧ c ≤ 9223372036854775807) (hk : OpsL P r n ops K X l (s.set k (.int .i64 c)) w) :
    OpsL P r n ops K X (⟨some k, .binOp bo xt x y yt, ty, p, af, g⟩ :: l) s w := by
  refine o_binI hw hx hy ?_ hk
  cases bo <;> simp only [binN, Option.some.injEq, reduceCtorEq] at hv <;> subst hv <;> simp only [binI] <;> rw [wrap_i64 hc]

def binC (bo : BinOp) (a b : Int) : Option Bool :=
  match bo with
  | .eql => some (decide (a = b))
  | .neq => some (decide (a ≠ b))
  | .lss => some (decide (a < b))
  | .leq => some (decide (a ≤ b))
  | .gtr => some (decide (a > b))
  | .geq => some (decide (a ≥ b))
  | _ => none

theorem o_binC {c : Bool} (hw : Region.wanted ⟨some k, .binOp bo xt x y yt, ty, p, af, g⟩ (yieldedE ops n s) = true) (hx : rd n s x = .int kk a) (hy : rd n s y = .int kk b) (hv : binC bo a b = some c) (hk : OpsL P r n ops K X l (s.set k (.bool c)) w) :
    OpsL P r n ops K X (⟨some k, .binOp bo xt x y yt, ty, p, af, g⟩ :: l) s w := by
  refine o_binI hw hx hy ?_ hk
  cases bo <;> simp only [binC, Option.some.injEq, reduceCtorEq] at hv <;> subst hv <;> rfl

theorem o_notb {b : Bool} (hw : Region.wanted ⟨some k, .unOp .not xt x, ty, p, af, g⟩ (yieldedE ops n s) = true) (hx : rd n s x = .bool b) (hk : OpsL P r n ops K X l (s.set k (.bool (!b))) w) :
    OpsL P r n ops K X (⟨some k, .unOp .not xt x, ty, p, af, g⟩ :: l) s w := by
  refine o_pur hw (fun w => ?_) hk
  rw [Oper.semAt_eq _ _ _ (fun c e => by cases e)]
  simp only [execOp, hx, Op.unary]
  rfl

theorem o_mf {fn : Fn} {fi ca : Array Operand} (vf vc : List Value) (hw : Region.wanted ⟨some k, .makeFunc fn fi ca, ty, p, af, g⟩ (yieldedE ops n s) = true) (hf : fi.toList.map (rd n s) = vf) (hc : ca.toList.map (rd n s) = vc) (hk : OpsL P r n ops K X l (s.set k (.func fn vf.toArray vc.toArray)) w) :
    OpsL P r n ops K X (⟨some k, .makeFunc fn fi ca, ty, p, af, g⟩ :: l) s w := by
  have e1 : fi.map (rd n s) = vf.toArray := Array.ext' (by simpa using hf)
  have e2 : ca.map (rd n s) = vc.toArray := Array.ext' (by simpa using hc)
  refine o_pur hw (fun w => ?_) hk
  rw [Oper.semAt_eq _ _ _ (fun c e => by cases e)]
  simp only [execOp, e1, e2]
  rfl
end

theorem o_val {v : Value} {w' : World} (hw : Region.wanted ⟨some k, op, ty, p, af, g⟩ (yieldedE ops n s) = true) (h : (Oper.semAt r (rd n s) ⟨some k, op, ty, p, af, g⟩).run P w = .ok (.value v) w') (hk : OpsL P r n ops K X l (s.set k v) w') :
    OpsL P r n ops K X (⟨some k, op, ty, p, af, g⟩ :: l) s w := o_val0 hw h hk

theorem o_unit {w' : World} (hw : Region.wanted ⟨none, op, ty, p, af, g⟩ (yieldedE ops n s) = true) (h : (Oper.semAt r (rd n s) ⟨none, op, ty, p, af, g⟩).run P w = .ok .skip w') (hk : OpsL P r n ops K X l s w') :
    OpsL P r n ops K X (⟨none, op, ty, p, af, g⟩ :: l) s w := o_unit0 hw h hk

theorem run_callOp {f : FuncId} {xs : Array Operand} {ats : Array TypeId} {args : Array Value} {dst : Option Nat} (hargs : xs.toList.map (rd n s) = args.toList) (hen : (callFunc f args).run P w = .ok (.enter f args) w) :
    (Oper.semAt r (rd n s) ⟨dst, .call ⟨.value (.func f), xs, ats⟩, ty, p, af, g⟩).run P w = .ok (.enter f args) w := by
  rw [Oper.semAt_eq _ _ _ (fun c e => by cases e)]
  have hargs' : xs.map (rd n s) = args := Array.ext' (by simpa using hargs)
  clear hargs
  subst hargs'
  simp only [execOp, resolve, rd_func]
  have e1 : ∀ (e : Sem Deferred) (F : Deferred → Sem Next) (a : Deferred), e.run P w = .ok a w → (e >>= F).run P w = (F a).run P w := fun e F a h => by rw [Sem.run_bind, h]; rfl
  rw [e1 _ _ { target := .fn (.func f) #[], args := #[] ++ xs.map (rd n s) } rfl]
  simp only [invoke, Array.empty_append, Array.append_empty]
  exact hen

theorem o_fn {f : FuncId} {xs : Array Operand} {ats : Array TypeId} {args : Array Value} {R : Value → World → Prop} (hc : Calls P f args w (fun e w' => ∃ v, e = .returned v ∧ R v w')) (hw : Region.wanted ⟨some k, .call ⟨.value (.func f), xs, ats⟩, ty, p, af, g⟩ (yieldedE ops n s) = true)
    (hen : ∀ w, (callFunc f args).run P w = .ok (.enter f args) w) (hargs : xs.toList.map (rd n s) = args.toList) (hk : ∀ v w', R v w' → OpsL P r n ops K X l (s.set k v) w') : OpsL P r n ops K X (⟨some k, .call ⟨.value (.func f), xs, ats⟩, ty, p, af, g⟩ :: l) s w := by
  refine o_wanted hw ?_
  unfold OpW
  rw [run_callOp hargs (hen w)]
  refine Calls.mono hc ?_
  rintro e w' ⟨v, rfl, hR⟩
  exact hk v w' hR

end
end Go.Pd

/-
  What is known of a heap, and how it lasts; loads, stores, new blocks, slices.
-/
set_option linter.unusedSimpArgs false
set_option linter.unnecessarySimpa false
set_option maxRecDepth 10000
set_option linter.unusedVariables false
namespace Go.Pd
variable {P : Program} {r : Option Nat} {n : Nat}

structure Upd (M : Nat → Prop) (w w' : World) : Prop where
  size : w.heap.size ≤ w'.heap.size
  same : ∀ b, b < w.heap.size → ¬ M b → w'.heap[b]? = w.heap[b]?
  os : w'.os = w.os
  out : w'.output = w.output

abbrev Ext (w w' : World) : Prop := Upd (fun _ => False) w w'

theorem Upd.refl (M : Nat → Prop) (w : World) : Upd M w w := ⟨Nat.le_refl _, fun _ _ _ => rfl, rfl, rfl⟩
theorem Upd.of_heap {M : Nat → Prop} {w w' : World} (h : To w w' w.heap) : Upd M w w' := ⟨by rw [h.1]; exact Nat.le_refl _, fun _ _ _ => by rw [h.1], h.2.1, h.2.2⟩
theorem Upd.trans {M M' : Nat → Prop} {a b c : World} (h : Upd M a b) (h' : Upd M' b c) (hm : ∀ k, k < a.heap.size → M' k → M k) : Upd M a c :=
  ⟨Nat.le_trans h.size h'.size, fun k hk hn => (h'.same k (Nat.lt_of_lt_of_le hk h.size) (fun hM => hn (hm k hk hM))).trans (h.same k hk hn), h'.os.trans h.os, h'.out.trans h.out⟩
theorem Ext.trans {a b c : World} (h : Ext a b) (h' : Ext b c) : Ext a c := Upd.trans h h' (fun _ _ h => h)
structure LH (w0 : World) (M : Nat → Prop) (w : World) (l : List (Nat × Obj)) : Prop where
  upd : Upd M w0 w
  own : ∀ p ∈ l, w.heap[p.1]? = some p.2
  fresh : ∀ p ∈ l, w0.heap.size ≤ p.1 ∨ M p.1
  nd : (l.map (·.1)).Nodup

theorem LH.start (w : World) (M : Nat → Prop) : LH w M w [] := ⟨.refl _ _, (fun _ h => nomatch h), (fun _ h => nomatch h), List.nodup_nil⟩

theorem LH.lt {w0 w : World} {M : Nat → Prop} {l : List (Nat × Obj)} (h : LH w0 M w l) {p : Nat × Obj} (hp : p ∈ l) : p.1 < w.heap.size :=
  (Array.getElem?_eq_some_iff.1 (h.own p hp)).1

theorem LH.ext {w0 w w' : World} {M : Nat → Prop} {l : List (Nat × Obj)} (h : LH w0 M w l) (e : Ext w w') : LH w0 M w' l :=
  ⟨h.upd.trans e (fun _ _ h => h.elim), fun p hp => (e.same p.1 (h.lt hp) (fun h => h)).trans (h.own p hp), h.fresh, h.nd⟩

theorem LH.heap {w0 w w' : World} {M : Nat → Prop} {l : List (Nat × Obj)} (h : LH w0 M w l) (e : To w w' w.heap) : LH w0 M w' l := h.ext (Upd.of_heap e)

theorem LH.sub {w0 w : World} {M : Nat → Prop} {l l' : List (Nat × Obj)} (h : LH w0 M w l) (hs : l'.Sublist l) : LH w0 M w l' :=
  ⟨h.upd, fun p hp => h.own p (hs.subset hp), fun p hp => h.fresh p (hs.subset hp), (hs.map _).nodup h.nd⟩

theorem LH.perm {w0 w : World} {M : Nat → Prop} {l l' : List (Nat × Obj)} (h : LH w0 M w l) (hs : l.Perm l') : LH w0 M w l' :=
  ⟨h.upd, fun p hp => h.own p (hs.mem_iff.2 hp), fun p hp => h.fresh p (hs.mem_iff.2 hp), (hs.map _).nodup_iff.1 h.nd⟩

theorem LH.get {w0 w : World} {M : Nat → Prop} {l : List (Nat × Obj)} (h : LH w0 M w l) (i : Nat) {b : Nat} {o : Obj} (hi : l[i]? = some (b, o)) : w.heap[b]? = some o := h.own (b, o) (List.mem_of_getElem? hi)

theorem cell_of_block {w : World} {b o : Nat} {cs : Array Value} {T : TypeId} {fz : Nat × Nat} {v : Value} (h : w.heap[b]? = some (.cells cs T fz)) (hv : cs[o]? = some v) : w.cell? ⟨b, o, none⟩ = some v := by
  simp [World.cell?, h, hv]
theorem frozen_of_block {w : World} {b o : Nat} {cs : Array Value} {T : TypeId} (h : w.heap[b]? = some (.cells cs T (0, 0))) : w.frozen? ⟨b, o, none⟩ = false := by
  simp [World.frozen?, h]

theorem LH.cell {w0 w : World} {M : Nat → Prop} {l : List (Nat × Obj)} (h : LH w0 M w l) (i : Nat) {b o : Nat} {cs : Array Value} {T : TypeId} {fz : Nat × Nat} {v : Value} (hi : l[i]? = some (b, .cells cs T fz)) (hv : cs[o]? = some v) : w.cell? ⟨b, o, none⟩ = some v :=
  cell_of_block (h.get i hi) hv

theorem lt_of_cell {w : World} {a : Addr} {v : Value} (h : w.cell? a = some v) : a.block < w.heap.size := by
  unfold World.cell? at h
  split at h
  · rename_i hh; exact (Array.getElem?_eq_some_iff.1 hh).1
  · cases h

theorem cell_congr {w w' : World} {a : Addr} (h : w'.heap[a.block]? = w.heap[a.block]?) : w'.cell? a = w.cell? a := by
  unfold World.cell?; rw [h]

theorem Upd.cell {M : Nat → Prop} {w w' : World} (h : Upd M w w') {a : Addr} {v : Value} (hn : ¬ M a.block) (hc : w.cell? a = some v) : w'.cell? a = some v :=
  (cell_congr (h.same _ (lt_of_cell hc) hn)).trans hc

theorem LH.alloc {w0 w : World} {M : Nat → Prop} {l : List (Nat × Obj)} (h : LH w0 M w l) (o : Obj) : LH w0 M { w with heap := w.heap.push o } ((w.heap.size, o) :: l) := by
  refine ⟨⟨by have := h.upd.size; simp; omega, fun b hb hn => ?_, h.upd.os, h.upd.out⟩, fun p hp => ?_, fun p hp => ?_, ?_⟩
  · have := h.upd.size
    rw [← h.upd.same b hb hn]
    simp only
    rw [Array.getElem?_push_lt (by omega), Array.getElem?_eq_getElem (by omega)]
  · rcases List.mem_cons.1 hp with rfl | hp
    · simp
    · have := h.lt hp
      have h1 := h.own p hp
      simp only
      rw [Array.getElem?_push_lt this]
      rw [Array.getElem?_eq_getElem this] at h1
      exact h1
  · rcases List.mem_cons.1 hp with rfl | hp
    · exact .inl h.upd.size
    · exact h.fresh p hp
  · simp only [List.map_cons, List.nodup_cons]
    refine ⟨fun hm => ?_, h.nd⟩
    obtain ⟨p, hp, he⟩ := List.mem_map.1 hm
    have := h.lt hp
    omega

theorem LH.put {w0 w w' : World} {M : Nat → Prop} {l : List (Nat × Obj)} (h : LH w0 M w l) (i : Nat) {b : Nat} {o o' : Obj} (hi : l[i]? = some (b, o)) (hs0 : SetAt w w' b o') : LH w0 M w' (l.set i (b, o')) := by
  have hs := hs0.1
  have hm := List.mem_of_getElem? hi
  have hb := h.lt hm
  have hil : i < l.length := (List.getElem?_eq_some_iff.1 hi).1
  have hother : ∀ k, k ≠ b → w'.heap[k]? = w.heap[k]? := fun k hk => by rw [hs, Array.getElem?_setIfInBounds_ne (Ne.symm hk)]
  have hkeys : (l.set i (b, o')).map (·.1) = l.map (·.1) := by
    rw [List.map_set]
    apply List.ext_getElem?
    intro j
    rw [List.getElem?_set]
    split
    · rename_i hj
      subst hj
      simp [hil, hi]
      rw [List.getElem?_eq_getElem hil] at hi
      simp at hi
      rw [hi]
    · rfl
  refine ⟨⟨by rw [hs]; simpa using h.upd.size, fun k hk hn => ?_, hs0.2.1.trans h.upd.os, hs0.2.2.trans h.upd.out⟩, fun p hp => ?_, fun p hp => ?_, ?_⟩
  · have hkb : k ≠ b := by
      rintro rfl
      rcases h.fresh _ hm with h1 | h1
      · exact absurd hk (Nat.not_lt.2 h1)
      · exact hn h1
    rw [hother k hkb]; exact h.upd.same k hk hn
  · obtain ⟨j, hj⟩ := List.getElem?_of_mem hp
    rw [List.getElem?_set] at hj
    split at hj
    · simp [hil] at hj
      subst hj
      rw [hs]; simp [hb]
    · rename_i hne
      have hpl := List.mem_of_getElem? hj
      rw [hother p.1 ?_]
      · exact h.own p hpl
      · intro he
        apply hne
        have h1 : (l.map (·.1))[i]? = some b := by simp [hi]
        have h2 : (l.map (·.1))[j]? = some b := by simp [hj, he]
        exact (List.getElem?_inj (by simpa using hil) h.nd).1 (h1.trans h2.symm)
  · obtain ⟨j, hj⟩ := List.getElem?_of_mem hp
    rw [List.getElem?_set] at hj
    split at hj
    · simp [hil] at hj
      subst hj
      exact h.fresh (b, o) hm
    · exact h.fresh p (List.mem_of_getElem? hj)
  · rw [hkeys]; exact h.nd

theorem LH.store {w0 w : World} {M : Nat → Prop} {l : List (Nat × Obj)} (h : LH w0 M w l) (i : Nat) {b o : Nat} {cs : Array Value} {T : TypeId} {fz : Nat × Nat} (v : Value) (hi : l[i]? = some (b, .cells cs T fz)) :
    LH w0 M (w.setCell ⟨b, o, none⟩ v) (l.set i (b, .cells (cs.setIfInBounds o v) T fz)) := by
  refine h.put i hi ⟨?_, rfl, rfl⟩
  have h1 := h.get i hi
  have hb : b < w.heap.size := (Array.getElem?_eq_some_iff.1 h1).1
  have h2 : w.heap[b] = .cells cs T fz := by rw [Array.getElem?_eq_getElem hb] at h1; exact Option.some.inj h1
  unfold World.setCell
  simp only
  apply Array.ext_getElem?
  intro k
  rw [Array.getElem?_modify, Array.getElem?_setIfInBounds]
  split
  · rename_i hk
    subst hk
    simp [hb, h2]
  · rfl

theorem LH.done {w0 w : World} {l : List (Nat × Obj)} (h : LH w0 (fun _ => False) w l) : Ext w0 w := h.upd

/-! ### Addresses -/
theorem add_mk (b o k : Nat) : (⟨b, o, none⟩ : Addr).add k = ⟨b, o + k, none⟩ := by
  unfold Addr.add; split
  · rename_i h; subst h; rfl
  · rfl

def aggT (P : Program) (t : TypeId) : Option Bool := (P.underlying t).map fun | .struct _ | .array _ _ => true | _ => false

theorem run_isAgg {t : TypeId} {b : Bool} (h : aggT P t = some b) (w : World) : (isAgg t).run P w = .ok b w := by
  unfold aggT at h
  cases hu : P.underlying t with
  | none => rw [hu] at h; cases h
  | some d =>
    rw [hu] at h
    simp only [Option.map_some, Option.some.injEq] at h
    subst h
    simp only [isAgg, underlying, program]
    cases d <;> simp [bind, Sem.bind, Sem.run, pure, hu]

theorem sem_bind {α β : Type} {e : Sem α} {f : α → Sem β} {w w' : World} {a : α} (h : e.run P w = .ok a w') : (e >>= f).run P w = (f a).run P w' := by
  rw [Sem.run_bind, h]; rfl

theorem run_loadVar1 {t : TypeId} {a : Addr} {v : Value} {w : World} (hA : aggT P t = some false) (h : w.cell? a = some v) : (loadVar t a).run P w = .ok v w := by
  unfold loadVar
  rw [sem_bind (run_isAgg hA w)]
  simp [load, Sem.run, h]

theorem run_loadCells {w : World} {b o : Nat} : ∀ (vs : List Value) (k : Nat) (acc : Array Value), (∀ i v, vs[i]? = some v → w.cell? ⟨b, o + k + i, none⟩ = some v) →
    (loadCellsFrom ⟨b, o, none⟩ k vs.length acc).run P w = .ok (acc ++ vs.toArray) w
  | [], k, acc, _ => by simp [loadCellsFrom, pure, Sem.run]
  | v :: vs, k, acc, h => by
    have h0 := h 0 v rfl
    simp only [List.length_cons, loadCellsFrom]
    rw [sem_bind (a := v) (w' := w) (by simp only [Nat.add_zero] at h0; simp [load, Sem.run, add_mk, h0])]
    rw [run_loadCells vs (k + 1) (acc.push v) (fun i u hi => by have := h (i + 1) u (by simpa using hi); rw [show o + (k + 1) + i = o + k + (i + 1) from by omega]; exact this)]
    congr 1
    apply Array.ext'
    simp

theorem run_sizeOf {t : TypeId} {i : TypeInfo} (h : P.info? t = some i) (w : World) : (sizeOf t).run P w = .ok i.size w := by
  simp [sizeOf, typeInfo, program, bind, Sem.bind, Sem.run, pure, h]

def sizeT (P : Program) (t : TypeId) : Option Nat := (P.info? t).map (·.size)

theorem run_sizeT {t k : Nat} (h : sizeT P t = some k) (w : World) : (sizeOf t).run P w = .ok k w := by
  unfold sizeT at h
  cases hi : P.info? t with
  | none => rw [hi] at h; cases h
  | some i => rw [hi] at h; simp at h; rw [run_sizeOf hi, h]

theorem run_loadVarN {t : TypeId} {b o : Nat} {vs : List Value} {w : World} (hA : aggT P t = some true) (hs : sizeT P t = some vs.length) (h : ∀ i v, vs[i]? = some v → w.cell? ⟨b, o + i, none⟩ = some v) : (loadVar t ⟨b, o, none⟩).run P w = .ok (.agg vs.toArray) w := by
  unfold loadVar
  rw [sem_bind (run_isAgg hA w)]
  simp only [if_true]
  rw [sem_bind (run_sizeT hs w)]
  unfold loadCells
  rw [sem_bind (run_loadCells vs 0 #[] (by simpa using h))]
  simp [pure, Sem.run]

def Row (w : World) (b o : Nat) (vs : List Value) : Prop := ∀ i v, vs[i]? = some v → w.cell? ⟨b, o + i, none⟩ = some v

theorem Row.upd {M : Nat → Prop} {w w' : World} {b o : Nat} {vs : List Value} (h : Row w b o vs) (e : Upd M w w') (hn : ¬ M b) : Row w' b o vs := fun i v hi => e.cell hn (h i v hi)
theorem Row.of_block {w : World} {b o : Nat} {cs : Array Value} {T : TypeId} {fz : Nat × Nat} {vs : List Value} (h : w.heap[b]? = some (.cells cs T fz)) (hv : ∀ i v, vs[i]? = some v → cs[o + i]? = some v) : Row w b o vs :=
  fun i v hi => cell_of_block h (hv i v hi)

section
variable {ops : Array Oper} {K : St → World → Prop} {X : List PanicEntry → St → World → Prop} {l : List Oper} {s : St} {w : World}
variable {d : Nat} {ty : TypeId} {p : String} {af : Array Edge} {g : Option (Nat × Bool)}

theorem o_load {t : TypeId} {x : Operand} {a : Addr} {v : Value} (hw : Region.wanted ⟨some d, .load t x, ty, p, af, g⟩ (yieldedE ops n s) = true) (hA : aggT P t = some false) (hx : rd n s x = .pointer (some a)) (hc : w.cell? a = some v)
    (hk : OpsL P r n ops K X l (s.set d v) w) : OpsL P r n ops K X (⟨some d, .load t x, ty, p, af, g⟩ :: l) s w := by
  refine o_val hw ?_ hk
  rw [Oper.semAt_eq _ _ _ (fun c e => by cases e)]
  simp only [execOp, Instr.loadAt, hx, Instr.sureAddr]
  rw [sem_bind (a := v) (w' := w)]
  · rfl
  · rw [sem_bind (a := a) (w' := w) rfl]; exact run_loadVar1 hA hc

def fieldT (P : Program) (st : TypeId) (f : Nat) : Option Nat :=
  match P.underlying st with
  | some (.struct fs) => (fs[f]?).bind fun x => (sizeT P x.type).bind fun z => if z = 0 then none else some x.offset
  | _ => none

theorem run_fieldAt {st f off b o : Nat} (h : fieldT P st f = some off) (w : World) : (Instr.fieldAt st (.pointer (some ⟨b, o, none⟩)) f).run P w = .ok (.pointer (some ⟨b, o + off, none⟩)) w := by
  unfold fieldT at h
  cases hu : P.underlying st with
  | none => rw [hu] at h; cases h
  | some d =>
    rw [hu] at h
    cases d with
    | struct fs =>
      simp only at h
      cases hf : fs[f]? with
      | none => rw [hf] at h; cases h
      | some x =>
        rw [hf] at h
        simp only [Option.bind_some] at h
        cases hz : sizeT P x.type with
        | none => rw [hz] at h; cases h
        | some z =>
          rw [hz] at h
          simp only [Option.bind_some] at h
          by_cases h0 : z = 0
          · rw [if_pos h0] at h; cases h
          · rw [if_neg h0] at h
            simp only [Option.some.injEq] at h
            unfold Instr.fieldAt
            rw [sem_bind (a := TypeDesc.struct fs) (w' := w) (by simp [underlying, program, bind, Sem.bind, Sem.run, pure, hu])]
            simp only [hf]
            rw [sem_bind (a := ⟨b, o, none⟩) (w' := w) rfl]
            rw [sem_bind (a := ⟨b, o + off, none⟩) (w' := w)]
            · rfl
            · unfold fieldPlace
              rw [sem_bind (run_sizeT hz w)]
              simp only [h0, if_false]
              rw [← h, add_mk]
              rfl
    | _ => cases h

theorem o_fa {st f off b o : Nat} {x : Operand} (hw : Region.wanted ⟨some d, .fieldAddr st x f, ty, p, af, g⟩ (yieldedE ops n s) = true) (hx : rd n s x = .pointer (some ⟨b, o, none⟩)) (hf : fieldT P st f = some off)
    (hk : OpsL P r n ops K X l (s.set d (.pointer (some ⟨b, o + off, none⟩))) w) : OpsL P r n ops K X (⟨some d, .fieldAddr st x f, ty, p, af, g⟩ :: l) s w := by
  refine o_val hw ?_ hk
  rw [Oper.semAt_eq _ _ _ (fun c e => by cases e)]
  simp only [execOp, hx]
  rw [sem_bind (run_fieldAt hf w)]
  rfl

theorem o_loadN {t : TypeId} {x : Operand} {b o : Nat} {vs : List Value} (hw : Region.wanted ⟨some d, .load t x, ty, p, af, g⟩ (yieldedE ops n s) = true) (hA : aggT P t = some true) (hs : sizeT P t = some vs.length) (hx : rd n s x = .pointer (some ⟨b, o, none⟩)) (hc : Row w b o vs)
    (hk : OpsL P r n ops K X l (s.set d (.agg vs.toArray)) w) : OpsL P r n ops K X (⟨some d, .load t x, ty, p, af, g⟩ :: l) s w := by
  refine o_val hw ?_ hk
  rw [Oper.semAt_eq _ _ _ (fun c e => by cases e)]
  simp only [execOp, Instr.loadAt, hx, Instr.sureAddr]
  rw [sem_bind (a := .agg vs.toArray) (w' := w)]
  · rfl
  · rw [sem_bind (a := ⟨b, o, none⟩) (w' := w) rfl]; exact run_loadVarN hA hs hc
end
end Go.Pd

/-
  Slices, strings: what they read as; index, length, slice expressions.
-/
set_option linter.unusedSimpArgs false
set_option linter.unnecessarySimpa false
set_option maxRecDepth 10000
set_option linter.unusedVariables false
namespace Go.Pd
variable {P : Program} {r : Option Nat} {n : Nat}

def Sl (w : World) (v : Value) (k : Nat) (vs : List Value) : Prop :=
  (v = .slice none 0 0 ∧ vs = []) ∨ ∃ (a : Addr) (m c : Nat), v = .slice (some a) m c ∧ vs.length = m * k ∧ m ≤ c ∧ (0 < c → a.spot = none) ∧ Row w a.block a.off vs

def Off (M : Nat → Prop) : Value → Prop
  | .slice (some a) _ _ => ¬ M a.block
  | _ => True

theorem Sl.upd {M : Nat → Prop} {w w' : World} {v : Value} {k : Nat} {vs : List Value} (h : Sl w v k vs) (e : Upd M w w') (hn : Off M v) : Sl w' v k vs := by
  rcases h with h | ⟨a, m, c, rfl, h1, h2, hs, h3⟩
  · exact .inl h
  · exact .inr ⟨a, m, c, rfl, h1, h2, hs, h3.upd e hn⟩

theorem Sl.mk {w : World} {k b o m c : Nat} {vs : List Value} (h1 : vs.length = m * k) (h2 : m ≤ c) (h3 : Row w b o vs) : Sl w (.slice (some ⟨b, o, none⟩) m c) k vs := .inr ⟨⟨b, o, none⟩, m, c, rfl, h1, h2, fun _ => rfl, h3⟩

theorem off_false (v : Value) : Off (fun _ => False) v := by
  cases v with
  | slice a m c => cases a <;> simp [Off]
  | _ => trivial

theorem Sl.ext {w w' : World} {v : Value} {k : Nat} {vs : List Value} (h : Sl w v k vs) (e : Ext w w') : Sl w' v k vs := h.upd e (off_false v)

theorem Sl.nil (w : World) (k : Nat) : Sl w (.slice none 0 0) k [] := .inl ⟨rfl, rfl⟩

theorem Sl.shape {w : World} {v : Value} {k m : Nat} {vs : List Value} (h : Sl w v k vs) (hm : vs.length = m * k) (hk : 0 < k) : ∃ a c, v = .slice a m c ∧ m ≤ c := by
  rcases h with ⟨rfl, rfl⟩ | ⟨a, m', c, rfl, h1, h2, hsp, h3⟩
  · have : m = 0 := by
      simp at hm
      rcases Nat.mul_eq_zero.1 hm.symm with h | h
      · exact h
      · omega
    subst this
    exact ⟨none, 0, rfl, Nat.le_refl _⟩
  · have : m = m' := Nat.eq_of_mul_eq_mul_right hk (hm.symm.trans h1)
    subst this
    exact ⟨_, c, rfl, h2⟩

theorem Sl.ne {w : World} {v : Value} {k m : Nat} {vs : List Value} (h : Sl w v k vs) (hm : vs.length = m * k) (hk : 0 < k) (h0 : 0 < m) : ∃ b o c, v = .slice (some ⟨b, o, none⟩) m c ∧ m ≤ c ∧ Row w b o vs := by
  rcases h with ⟨rfl, rfl⟩ | ⟨a, m', c, rfl, h1, h2, hsp, h3⟩
  · simp at hm
    rcases Nat.mul_eq_zero.1 hm.symm with h | h <;> omega
  · have : m = m' := Nat.eq_of_mul_eq_mul_right hk (hm.symm.trans h1)
    subst this
    obtain ⟨b, o, s⟩ := a
    obtain rfl : s = none := hsp (by omega)
    exact ⟨b, o, c, rfl, h2, h3⟩

theorem Sl.at {w : World} {a : Option Addr} {c k m : Nat} {vs : List Value} (h : Sl w (.slice a m c) k vs) (hm : vs.length = m * k) (hk : 0 < k) (h0 : 0 < m) : ∃ b o, a = some ⟨b, o, none⟩ ∧ Row w b o vs := by
  obtain ⟨b, o, c', h1, h2, h3⟩ := h.ne hm hk h0
  simp only [Value.slice.injEq] at h1
  exact ⟨b, o, h1.1, h3⟩

@[irreducible] def str (l : List UInt8) : Value := .string ⟨l.toArray⟩
theorem str_eq (l : List UInt8) : str l = .string ⟨l.toArray⟩ := by unfold str; rfl
theorem string_str (s : ByteArray) : Value.string s = str s.data.toList := by simp [str_eq]

theorem toList_mk (l : List UInt8) : (⟨l.toArray⟩ : ByteArray).toList = l := by
  have h : ∀ (k : Nat) (acc : List UInt8), k ≤ l.length → ByteArray.toList.loop ⟨l.toArray⟩ k acc = acc.reverse ++ l.drop k := by
    intro k
    generalize hd : l.length - k = d
    induction d generalizing k with
    | zero =>
      intro acc hk
      have : k = l.length := by omega
      subst this
      unfold ByteArray.toList.loop
      simp [ByteArray.size]
    | succ d ih =>
      intro acc hk
      unfold ByteArray.toList.loop
      have hlt : k < l.length := by omega
      simp only [ByteArray.size, List.size_toArray, hlt, if_true]
      rw [ih (k + 1) (by omega) _ (by omega)]
      rw [List.drop_eq_getElem_cons hlt]
      have hg : (⟨l.toArray⟩ : ByteArray).get! k = l[k] := by
        show (l.toArray)[k]! = l[k]
        simp [hlt]
      rw [hg]
      simp
  have := h 0 [] (by omega)
  simpa [ByteArray.toList] using this

section
variable {ops : Array Oper} {K : St → World → Prop} {X : List PanicEntry → St → World → Prop} {l : List Oper} {s : St} {w : World}
variable {d : Nat} {ty : TypeId} {p : String} {af : Array Edge} {g : Option (Nat × Bool)}

theorem run_underlying' {t : TypeId} {u : TypeDesc} (h : P.underlying t = some u) (w : World) : (underlying t).run P w = .ok u w := by
  simp [underlying, program, bind, Sem.bind, Sem.run, pure, h]

theorem run_indexAt_slice {t e k j m c : Nat} {kk : IntKind} {i : Int} {b o : Nat} (hu : P.underlying t = some (.slice e)) (hs : sizeT P e = some k) (hi : i = (j : Int)) (hj : j < m) (w : World) :
    (Instr.indexAt t (.slice (some ⟨b, o, none⟩) m c) (.int kk i)).run P w = .ok (.pointer (some ⟨b, o + j * k, none⟩)) w := by
  subst hi
  unfold Instr.indexAt
  rw [sem_bind (a := (kk, (j : Int))) (w' := w) rfl]
  simp only
  rw [sem_bind (run_underlying' hu w)]
  simp only
  rw [sem_bind (a := (some ⟨b, o, none⟩, m, e)) (w' := w) rfl]
  simp only
  by_cases hm : m ≤ 1
  · rw [sem_bind (a := TypeDesc.slice e) (w' := w) (by rw [run_underlying' hu w])]
    have h1 : (0 : Int) ≤ (j : Int) ∧ (j : Int) < (m : Int) := ⟨by omega, by omega⟩
    simp only [h1, and_self, if_true]
    rw [sem_bind (run_sizeT hs w)]
    simp [pure, Sem.run, add_mk]
  · rw [sem_bind (a := TypeDesc.slice e) (w' := w) (by rw [run_underlying' hu w])]
    have h1 : (0 : Int) ≤ (j : Int) ∧ (j : Int) < (m : Int) := ⟨by omega, by omega⟩
    simp only [h1, and_self, if_true]
    rw [sem_bind (run_sizeT hs w)]
    simp [pure, Sem.run, add_mk]

theorem o_indexAddr {t e k m c : Nat} {x ix : Operand} {kk : IntKind} {i : Int} {a : Option Addr} {b o : Nat} (j : Nat) (ha : a = some ⟨b, o, none⟩) (hj : j < m) (hw : Region.wanted ⟨some d, .indexAddr t x ix, ty, p, af, g⟩ (yieldedE ops n s) = true) (hu : P.underlying t = some (.slice e)) (hs : sizeT P e = some k)
    (hx : rd n s x = .slice a m c) (hix : rd n s ix = .int kk i) (hi : i = (j : Int))
    (hk : OpsL P r n ops K X l (s.set d (.pointer (some ⟨b, o + j * k, none⟩))) w) : OpsL P r n ops K X (⟨some d, .indexAddr t x ix, ty, p, af, g⟩ :: l) s w := by
  subst ha
  refine o_val hw ?_ hk
  rw [Oper.semAt_eq _ _ _ (fun c e => by cases e)]
  simp only [execOp, hx, hix]
  rw [sem_bind (run_indexAt_slice hu hs hi hj w)]
  rfl

theorem o_index {t : Nat} {x ix : Operand} {kk : IntKind} {i : Int} {bs : List UInt8} (j : Nat) {c : UInt8} (hw : Region.wanted ⟨some d, .index t x ix, ty, p, af, g⟩ (yieldedE ops n s) = true) (hu : P.underlying t = some .string)
    (hx : rd n s x = str bs) (hix : rd n s ix = .int kk i) (hi : i = (j : Int)) (hj : bs[j]? = some c)
    (hk : OpsL P r n ops K X l (s.set d (.int .u8 (c.toNat : Int))) w) : OpsL P r n ops K X (⟨some d, .index t x ix, ty, p, af, g⟩ :: l) s w := by
  refine o_val hw ?_ hk
  rw [Oper.semAt_eq _ _ _ (fun c e => by cases e)]
  subst hi
  simp only [execOp, hx, hix, str_eq]
  rw [sem_bind (a := .int .u8 (c.toNat : Int)) (w' := w)]
  · rfl
  · unfold Instr.index
    rw [sem_bind (a := (kk, (j : Int))) (w' := w) rfl]
    simp only
    rw [sem_bind (run_underlying' hu w)]
    have h1 : (⟨bs.toArray⟩ : ByteArray)[j]? = some c := by
      have hlt : j < bs.length := (List.getElem?_eq_some_iff.1 hj).1
      rw [getElem?_pos _ _ (by simpa [ByteArray.size] using hlt)]
      have h2 : bs[j] = c := (List.getElem?_eq_some_iff.1 hj).2
      congr 1
    simp only [show (0 : Int) ≤ (j : Int) from by omega, if_true, Int.toNat_natCast, h1]
    rfl

theorem size_mk (bs : List UInt8) : (⟨bs.toArray⟩ : ByteArray).size = bs.length := by simp [ByteArray.size]

theorem o_eqs {t yt : Nat} {x y : Operand} {a b : List UInt8} (hw : Region.wanted ⟨some d, .binOp .eql t x y yt, ty, p, af, g⟩ (yieldedE ops n s) = true) (hx : rd n s x = str a) (hy : rd n s y = str b)
    (hk : OpsL P r n ops K X l (s.set d (.bool (decide (a = b)))) w) : OpsL P r n ops K X (⟨some d, .binOp .eql t x y yt, ty, p, af, g⟩ :: l) s w := by
  refine o_val hw ?_ hk
  rw [Oper.semAt_eq _ _ _ (fun c e => by cases e)]
  simp only [execOp, hx, hy, str_eq, eqGuard, binOp, Op.stringOp, toList_mk]
  simp [bind, Sem.bind, pure, Sem.run]
  by_cases h : a = b <;> simp [h]

theorem o_nes {t yt : Nat} {x y : Operand} {a b : List UInt8} (hw : Region.wanted ⟨some d, .binOp .neq t x y yt, ty, p, af, g⟩ (yieldedE ops n s) = true) (hx : rd n s x = str a) (hy : rd n s y = str b)
    (hk : OpsL P r n ops K X l (s.set d (.bool (decide (a ≠ b)))) w) : OpsL P r n ops K X (⟨some d, .binOp .neq t x y yt, ty, p, af, g⟩ :: l) s w := by
  refine o_val hw ?_ hk
  rw [Oper.semAt_eq _ _ _ (fun c e => by cases e)]
  simp only [execOp, hx, hy, str_eq, eqGuard, binOp, Op.stringOp, toList_mk]
  simp [bind, Sem.bind, pure, Sem.run]
  by_cases h : a = b <;> simp [h]

theorem o_lens {at_ : Array TypeId} {x : Operand} {a : List UInt8} (hw : Region.wanted ⟨some d, .call ⟨.builtin .len, #[x], at_⟩, ty, p, af, g⟩ (yieldedE ops n s) = true) (hu : (at_[0]?).bind P.underlying = some .string) (hx : rd n s x = str a)
    (hk : OpsL P r n ops K X l (s.set d (.int .i64 (a.length : Int))) w) : OpsL P r n ops K X (⟨some d, .call ⟨.builtin .len, #[x], at_⟩, ty, p, af, g⟩ :: l) s w := by
  refine o_val hw ?_ hk
  rw [Oper.semAt_eq _ _ _ (fun c e => by cases e)]
  cases ha : at_[0]? with
  | none => rw [ha] at hu; cases hu
  | some t =>
    rw [ha] at hu
    simp only [Option.bind_some] at hu
    simp only [execOp, resolve, List.map_toArray, List.map_cons, List.map_nil, hx, str_eq]
    rw [sem_bind (w' := w) rfl]
    simp only [invoke, builtin, Builtin.len_, ha]
    simp [sem_bind (run_underlying' hu w), size_mk, bind, Sem.bind, pure, Sem.run, underlying, program, hu, goInt]

theorem o_lenv {at_ : Array TypeId} {x : Operand} {e m c : Nat} {a : Option Addr} (hw : Region.wanted ⟨some d, .call ⟨.builtin .len, #[x], at_⟩, ty, p, af, g⟩ (yieldedE ops n s) = true) (hu : (at_[0]?).bind P.underlying = some (.slice e)) (hx : rd n s x = .slice a m c)
    (hk : OpsL P r n ops K X l (s.set d (.int .i64 (m : Int))) w) : OpsL P r n ops K X (⟨some d, .call ⟨.builtin .len, #[x], at_⟩, ty, p, af, g⟩ :: l) s w := by
  refine o_val hw ?_ hk
  rw [Oper.semAt_eq _ _ _ (fun c e => by cases e)]
  cases ha : at_[0]? with
  | none => rw [ha] at hu; cases hu
  | some t =>
    rw [ha] at hu
    simp only [Option.bind_some] at hu
    simp only [execOp, resolve, List.map_toArray, List.map_cons, List.map_nil, hx]
    rw [sem_bind (w' := w) rfl]
    simp only [invoke, builtin, Builtin.len_, ha]
    simp [bind, Sem.bind, pure, Sem.run, underlying, program, hu, goInt]

end

end Go.Pd

/-
  The walk: code with its continuation.
-/
set_option linter.unusedSimpArgs false
set_option linter.unnecessarySimpa false
set_option maxRecDepth 10000
set_option linter.unusedVariables false
namespace Go.Pd
variable {P : Program} {r : Option Nat} {n : Nat}

abbrev Ex := Exit → St → World → Prop

def WK (P : Program) (r : Option Nat) (n : Nat) (c : Code) (K : St → World → Prop) (Q : Ex) (s : St) (w : World) : Prop := W P r n c (ThenQ K Q) s w

def BlockK (id : Nat) (K : St → World → Prop) (Q : Ex) : Ex
  | .exit id', s, w => if id' = id then K s w else Q (.exit id') s w
  | e, s, w => Q e s w

section
variable {K : St → World → Prop} {Q : Ex} {s : St} {w : World}

theorem wk_w {c : Code} (h : WK P r n c (Q .normal) Q s w) : W P r n c Q s w := w_mono h fun e s w h => by cases e <;> exact h

theorem wk_seq {x y : Code} (h : ∀ K' : St → World → Prop, (∀ s w, WK P r n y K Q s w → K' s w) → WK P r n x K' Q s w) : WK P r n (.seq x y) K Q s w := by
  refine w_seq (w_mono (h _ fun s w h => h) fun e s w h => ?_)
  cases e <;> exact h

theorem wk_reg {id : Nat} {l : List Oper} (h : OpsL P r n l.toArray K (fun c => Q (.panic c)) l s w) : WK P r n (.region id l.toArray false) K Q s w := w_regionL h

theorem wk_skip (h : K s w) : WK P r n .skip K Q s w := w_skip h
theorem wk_label {l : Nat} (h : K s w) : WK P r n (.label l) K Q s w := w_label h
theorem wk_exit {id : Nat} (h : Q (.exit id) s w) : WK P r n (.exit id) K Q s w := w_exit h
theorem wk_ret (h : Q .ret s w) : WK P r n .ret K Q s w := w_ret h
theorem wk_block {id : Nat} {c : Code} (h : WK P r n c K (BlockK id K Q) s w) : WK P r n (.block id c) K Q s w := by
  refine w_block (w_mono h fun e s w h => ?_)
  cases e with
  | exit id' =>
    simp only [ThenQ, BlockK, BlockQ] at h ⊢
    by_cases hid : id' = id
    · simp only [hid, if_true] at h ⊢; exact h
    · simp only [hid, if_false] at h ⊢; exact h
  | _ => exact h
theorem wk_cond_dec {c : Operand} {x y : Code} {p : Prop} [Decidable p] (hc : rd n s c = .bool (decide p)) (ht : p → WK P r n x K Q s w) (hf : ¬ p → WK P r n y K Q s w) : WK P r n (.cond c x y) K Q s w :=
  w_cond hc (fun h => ht (of_decide_eq_true h)) (fun h => hf (of_decide_eq_false h))
theorem wk_cond_t {c : Operand} {x y : Code} (hc : rd n s c = .bool true) (h : WK P r n x K Q s w) : WK P r n (.cond c x y) K Q s w := w_cond_t hc h
theorem wk_cond_f {c : Operand} {x y : Code} (hc : rd n s c = .bool false) (h : WK P r n y K Q s w) : WK P r n (.cond c x y) K Q s w := w_cond_f hc h
theorem wk_loop {α : Type} {c : Code} (I : α → St → World → Prop) (μ : α → Nat) (x₀ : α) (h₀ : I x₀ s w)
    (round : ∀ x s w, I x s w → WK P r n c (fun s' w' => ∃ x', I x' s' w' ∧ μ x' < μ x) Q s w) : WK P r n (.loop c) K Q s w :=
  w_loop I μ x₀ h₀ fun x s w hI => w_mono (round x s w hI) fun e s w h => by cases e <;> exact h

theorem blockK_same {id : Nat} (h : K s w) : BlockK id K Q (.exit id) s w := by simp only [BlockK, if_true]; exact h
theorem blockK_other {id id' : Nat} (hne : Nat.beq id' id = false) (h : Q (.exit id') s w) : BlockK id K Q (.exit id') s w := by
  have : id' ≠ id := fun e => by subst e; simp at hne
  simp only [BlockK, this, if_false]; exact h
theorem wk_mono {c : Code} {K' : St → World → Prop} (h : WK P r n c K' Q s w) (hk : ∀ s w, K' s w → K s w) : WK P r n c K Q s w := w_mono h fun e s w h => by cases e <;> first | exact hk _ _ h | exact h
end

theorem calls_of {f : FuncId} {fn : Func} {c : Code} {args : Array Value} {w : World} {R : Value → World → Prop} {n : Nat}
    (hf : P.funcs[f]? = some fn) (hb : fn.body = some c) (hm : fn.ntmps = n) (hn : Nat.ble args.size n = true)
    (h : WK P none n c (RetQ P fn n R .ret) (RetQ P fn n R) (st0 args) w) : Calls P f args w (fun e w' => ∃ v, e = .returned v ∧ R v w') := by
  subst hm
  exact calls_of_w hf hb (Nat.le_of_ble_eq_true hn) (wk_w (wk_mono h fun s w h => h))

def St.with (s : St) : List (Nat × Value) → St
  | [] => s
  | (k, v) :: l => (s.with l).set k v

def Has (s : St) : List (Nat × Value) → Prop
  | [] => True
  | (k, v) :: l => s.t k = v ∧ Has s l

theorem with_of_has {s : St} : ∀ {l : List (Nat × Value)}, Has s l → s.with l = s
  | [], _ => rfl
  | (k, v) :: l, h => by
    simp only [St.with]
    rw [with_of_has h.2]
    ext i
    · rw [St.set_t]; split
      · rename_i hi; subst hi; exact h.1.symm
      · rfl
    · rfl

section
variable {K : St → World → Prop} {Q : Ex} {s : St} {w : World}

theorem wk_loopH {α : Type} {c : Code} (ds : List Deferred) (hd0 : s.d = ds) (L : α → List (Nat × Value)) (J : α → World → Prop) (μ : α → Nat) (x₀ : α) (h₀ : Has s (L x₀)) (hJ : J x₀ w)
    (round : ∀ x t w, J x w → WK P r n c (fun s' w' => ∃ x', Has s' (L x') ∧ s'.d = ds ∧ J x' w' ∧ μ x' < μ x) Q ((⟨t, ds⟩ : St).with (L x)) w) : WK P r n (.loop c) K Q s w := by
  subst hd0
  exact wk_loop (fun x s' w => Has s' (L x) ∧ s'.d = s.d ∧ J x w) μ x₀ ⟨h₀, rfl, hJ⟩ fun x s' w ⟨hs, hd, hJ⟩ => by
    have h := round x s'.t w hJ
    have e : (⟨s'.t, s.d⟩ : St) = s' := by cases s'; simp only at hd; subst hd; rfl
    rw [e, with_of_has hs] at h
    exact wk_mono h fun s w ⟨x', h1, h2, h3, h4⟩ => ⟨x', ⟨h1, h2, h3⟩, h4⟩

theorem wk_cut {α : Type} {c : Code} (ds : List Deferred) (L : α → List (Nat × Value)) (J : α → World → Prop) (h1 : WK P r n c (fun s' w' => ∃ x, Has s' (L x) ∧ s'.d = ds ∧ J x w') Q s w)
    (h2 : ∀ x t w', J x w' → K ((⟨t, ds⟩ : St).with (L x)) w') : WK P r n c K Q s w :=
  wk_mono h1 fun s' w' ⟨x, hs, hd, hJ⟩ => by
    have h := h2 x s'.t w' hJ
    have e : (⟨s'.t, ds⟩ : St) = s' := by cases s'; simp only at hd; subst hd; rfl
    rw [e, with_of_has hs] at h
    exact h

end

attribute [irreducible] WK
end Go.Pd

/-
  New blocks, stores, append.
-/
set_option linter.unusedSimpArgs false
set_option linter.unnecessarySimpa false
set_option maxRecDepth 10000
set_option linter.unusedVariables false
namespace Go.Pd
variable {P : Program} {r : Option Nat} {n : Nat}

def zeroC (P : Program) (t : TypeId) : Option (Array Value) := ((P.info? t).bind (·.zero)).map Value.cells

theorem run_zeroValue {t : TypeId} {cs : Array Value} (h : zeroC P t = some cs) (w : World) : ∃ z, (zeroValue t).run P w = .ok z w ∧ z.cells = cs := by
  unfold zeroC at h
  cases hi : P.info? t with
  | none => rw [hi] at h; cases h
  | some i =>
    rw [hi] at h
    simp only [Option.bind_some] at h
    cases hz : i.zero with
    | none => rw [hz] at h; cases h
    | some z =>
      rw [hz] at h
      simp only [Option.map_some, Option.some.injEq] at h
      exact ⟨z, by simp [zeroValue, typeInfo, program, bind, Sem.bind, Sem.run, pure, hi, hz], h⟩

def putL : List Value → Nat → List Value → List Value
  | vs, _, [] => vs
  | vs, o, u :: us => putL (vs.set o u) (o + 1) us

theorem putL_length : ∀ (us : List Value) (vs : List Value) (o : Nat), (putL vs o us).length = vs.length
  | [], _, _ => rfl
  | u :: us, vs, o => by simp only [putL]; rw [putL_length us]; simp

theorem putL_get : ∀ (us : List Value) (vs : List Value) (o j : Nat), o + us.length ≤ vs.length → (putL vs o us)[j]? = if o ≤ j ∧ j < o + us.length then us[j - o]? else vs[j]?
  | [], vs, o, j, _ => by
    simp only [putL, List.length_nil, Nat.add_zero]
    rw [if_neg (by omega)]
  | u :: us, vs, o, j, h => by
    simp only [putL]
    have hl : o < vs.length := by simp at h; omega
    rw [putL_get us (vs.set o u) (o + 1) j (by simp at h ⊢; omega)]
    by_cases h1 : o + 1 ≤ j ∧ j < o + 1 + us.length
    · rw [if_pos h1, if_pos (by simp; omega)]
      rw [show j - o = (j - (o + 1)) + 1 from by omega]; rfl
    · rw [if_neg h1, List.getElem?_set]
      by_cases h2 : o = j
      · subst h2
        rw [if_pos rfl, if_pos hl, if_pos (by simp)]
        simp
      · rw [if_neg h2, if_neg (by simp; omega)]

theorem putL_all (us vs : List Value) (o : Nat) (h : vs.length = o + us.length) : putL vs o us = vs.take o ++ us := by
  apply List.ext_getElem?
  intro j
  rw [putL_get us vs o j (by omega), List.getElem?_append, List.length_take]
  by_cases h1 : j < o
  · rw [if_neg (by omega), if_pos (by omega), List.getElem?_take, if_pos h1]
  · by_cases h2 : j < o + us.length
    · rw [if_pos ⟨by omega, h2⟩, if_neg (by omega)]
      congr 1; omega
    · rw [if_neg (by omega), if_neg (by omega)]
      rw [List.getElem?_eq_none (by omega), List.getElem?_eq_none (by omega)]

theorem LH.cellL {w0 w : World} {M : Nat → Prop} {l : List (Nat × Obj)} (h : LH w0 M w l) (i : Nat) {b o : Nat} {vs : List Value} {T : TypeId} {fz : Nat × Nat} {v : Value} (hi : l[i]? = some (b, .cells vs.toArray T fz)) (hv : vs[o]? = some v) : w.cell? ⟨b, o, none⟩ = some v :=
  h.cell i hi (by simpa using hv)

theorem LH.rowL {w0 w : World} {M : Nat → Prop} {l : List (Nat × Obj)} (h : LH w0 M w l) (i : Nat) {b : Nat} {vs : List Value} {T : TypeId} {fz : Nat × Nat} (o m : Nat) (hi : l[i]? = some (b, .cells vs.toArray T fz)) : Row w b o ((vs.drop o).take m) := fun j v hj => by
  refine h.cellL i hi ?_
  rw [List.getElem?_take] at hj
  split at hj
  · rw [List.getElem?_drop] at hj; exact hj
  · cases hj

theorem run_storeCells {w0 : World} {M : Nat → Prop} {b i : Nat} {T : TypeId} : ∀ (us : List Value) (o k : Nat) (w : World) (l : List (Nat × Obj)) (vs : List Value), LH w0 M w l → l[i]? = some (b, .cells vs.toArray T (0, 0)) → o + k + us.length ≤ vs.length → (∀ u ∈ us, u.oneCell' = true) →
    ∃ w', (storeCells ⟨b, o, none⟩ us k).run P w = .ok () w' ∧ LH w0 M w' (l.set i (b, .cells (putL vs (o + k) us).toArray T (0, 0)))
  | [], o, k, w, l, vs, hl, hi, _, _ => by
    refine ⟨w, by simp [storeCells, pure, Sem.run], ?_⟩
    have : l.set i (b, .cells (putL vs (o + k) []).toArray T (0, 0)) = l := by
      apply List.ext_getElem?
      intro j
      rw [List.getElem?_set]
      split
      · rename_i h; subst h
        have hil : i < l.length := (List.getElem?_eq_some_iff.1 hi).1
        simp [hil, putL]
        rw [List.getElem?_eq_getElem hil] at hi
        exact (Option.some.inj hi).symm
      · rfl
    rw [this]; exact hl
  | u :: us, o, k, w, l, vs, hl, hi, hle, h1 => by
    have hlt : o + k < vs.length := by simp at hle; omega
    have hc : w.cell? ⟨b, o + k, none⟩ = some vs[o + k] := hl.cellL i hi (by simp [hlt])
    have hf : w.frozen? ⟨b, o + k, none⟩ = false := frozen_of_block (hl.get i hi)
    have hst := hl.store i (o := o + k) u hi
    have hil : i < l.length := (List.getElem?_eq_some_iff.1 hi).1
    have e1 : (vs.toArray.setIfInBounds (o + k) u) = (vs.set (o + k) u).toArray := by simp
    rw [e1] at hst
    obtain ⟨w', hr, hl'⟩ := run_storeCells us o (k + 1) (w.setCell ⟨b, o + k, none⟩ u) _ (vs.set (o + k) u) hst (by rw [List.getElem?_set_self hil]) (by simp at hle ⊢; omega) (fun x hx => h1 x (List.mem_cons_of_mem _ hx))
    refine ⟨w', ?_, ?_⟩
    · simp only [storeCells, add_mk]
      have hu := h1 u List.mem_cons_self
      rw [sem_bind (a := ()) (w' := w.setCell ⟨b, o + k, none⟩ u)]
      · exact hr
      · cases u <;> simp [Value.oneCell'] at hu <;> simp [store, Sem.run, hc, hf]
    · rw [List.set_set] at hl'
      exact hl'

section
variable {ops : Array Oper} {K : St → World → Prop} {X : List PanicEntry → St → World → Prop} {l : List Oper} {s : St} {w w0 : World} {M : Nat → Prop} {bl : List (Nat × Obj)}
variable {d : Nat} {ty : TypeId} {p : String} {af : Array Edge} {g : Option (Nat × Bool)}

theorem o_alloc {t : TypeId} (hl : LH w0 M w bl) (vs : List Value) (hz : zeroC P t = some vs.toArray) (hw : Region.wanted ⟨some d, .alloc t, ty, p, af, g⟩ (yieldedE ops n s) = true)
    (hk : ∀ b w', w0.heap.size ≤ b → LH w0 M w' ((b, .cells vs.toArray t (0, 0)) :: bl) → OpsL P r n ops K X l (s.set d (.pointer (some ⟨b, 0, none⟩))) w') : OpsL P r n ops K X (⟨some d, .alloc t, ty, p, af, g⟩ :: l) s w := by
  obtain ⟨z, hz1, hz2⟩ := run_zeroValue hz w
  refine o_val (w' := { w with heap := w.heap.push (.cells vs.toArray t) }) hw ?_ (hk w.heap.size _ hl.upd.size (hl.alloc _))
  rw [Oper.semAt_eq _ _ _ (fun c e => by cases e)]
  simp only [execOp, Instr.alloc]
  rw [sem_bind (a := .pointer (some ⟨w.heap.size, 0, none⟩)) (w' := { w with heap := w.heap.push (.cells vs.toArray t) })]
  · rfl
  · rw [sem_bind hz1]
    simp only [newVar, newRow, newObj, hz2]
    simp [bind, Sem.bind, Sem.run, pure]

theorem o_box {t : TypeId} {x : Operand} {v : Value} (hl : LH w0 M w bl) (vs : List Value) (hw : Region.wanted ⟨some d, .box t x, ty, p, af, g⟩ (yieldedE ops n s) = true) (hx : rd n s x = v) (hv : v.cells = vs.toArray)
    (hk : ∀ b w', w0.heap.size ≤ b → LH w0 M w' ((b, .cells vs.toArray t (0, 0)) :: bl) → OpsL P r n ops K X l (s.set d (.pointer (some ⟨b, 0, none⟩))) w') : OpsL P r n ops K X (⟨some d, .box t x, ty, p, af, g⟩ :: l) s w := by
  refine o_val (w' := { w with heap := w.heap.push (.cells vs.toArray t) }) hw ?_ (hk w.heap.size _ hl.upd.size (hl.alloc _))
  rw [Oper.semAt_eq _ _ _ (fun c e => by cases e)]
  simp only [execOp, Instr.box, hx]
  simp only [newVar, newRow, newObj, hv]
  simp [bind, Sem.bind, Sem.run, pure]

theorem o_store {t : TypeId} {a x : Operand} {b o : Nat} {vs : List Value} {T : TypeId} (hl : LH w0 M w bl) (i : Nat) (us : List Value) (hw : Region.wanted ⟨none, .store t a x, ty, p, af, g⟩ (yieldedE ops n s) = true) (ha : rd n s a = .pointer (some ⟨b, o, none⟩)) (hi : bl[i]? = some (b, .cells vs.toArray T (0, 0)))
    (hx : (rd n s x).cells = us.toArray) (hs : sizeT P t = some us.length) (hle : o + us.length ≤ vs.length) (h1 : us.all Value.oneCell' = true)
    (hk : ∀ w', LH w0 M w' (bl.set i (b, .cells (putL vs o us).toArray T (0, 0))) → OpsL P r n ops K X l s w') : OpsL P r n ops K X (⟨none, .store t a x, ty, p, af, g⟩ :: l) s w := by
  obtain ⟨w', hr, hl'⟩ := run_storeCells (P := P) us o 0 w bl vs hl hi (by simpa using hle) (by simpa using h1)
  refine o_unit (w' := w') hw ?_ (hk w' hl')
  rw [Oper.semAt_eq _ _ _ (fun c e => by cases e)]
  simp only [execOp, Instr.storeAt, ha, Instr.sureAddr]
  rw [sem_bind (a := ()) (w' := w')]
  · rfl
  · rw [sem_bind (a := ⟨b, o, none⟩) (w' := w) rfl]
    unfold storeVar
    rw [sem_bind (run_sizeT hs w)]
    simp only [hx, List.size_toArray, ne_eq, not_true_eq_false, if_false]
    exact hr

def buildC (P : Program) (t : TypeId) (parts : List (Nat × Value)) : Option (Array Value) :=
  match zeroC P t, P.underlying t with
  | some z, some (.struct fs) => (fs.toList.mapM fun f => (sizeT P f.type).map fun k => (f.offset, k)).bind fun pl => Instr.fill (pl[·]?) z parts
  | some z, some (.array _ e) => (sizeT P e).bind fun k => Instr.fill (fun i => some (i * k, k)) z parts
  | _, _ => none

theorem run_mapM {α β : Type} (f : α → Option β) (F : α → Sem β) (w : World) (h : ∀ a b, f a = some b → (F a).run P w = .ok b w) : ∀ (l : List α) (bs : List β), l.mapM f = some bs → (l.mapM F).run P w = .ok bs w
  | [], bs, hb => by simp at hb; subst hb; simp [pure, Sem.run]
  | a :: l, bs, hb => by
    simp only [List.mapM_cons] at hb ⊢
    cases ha : f a with
    | none => rw [ha] at hb; simp at hb
    | some b =>
      rw [ha] at hb
      cases hl : l.mapM f with
      | none => rw [hl] at hb; simp at hb
      | some bs' =>
        rw [hl] at hb
        simp at hb
        subst hb
        rw [sem_bind (h a b ha), sem_bind (run_mapM f F w h l bs' hl)]
        rfl

theorem run_build {t : TypeId} {parts : Array (Nat × Value)} {cs : Array Value} (h : buildC P t parts.toList = some cs) (w : World) : (Instr.build t parts).run P w = .ok (.agg cs) w := by
  unfold buildC at h
  cases hz : zeroC P t with
  | none => rw [hz] at h; cases h
  | some z =>
    rw [hz] at h
    obtain ⟨zv, hz1, rfl⟩ := run_zeroValue hz w
    cases hu : P.underlying t with
    | none => rw [hu] at h; cases h
    | some u =>
      rw [hu] at h
      unfold Instr.build
      rw [sem_bind hz1]
      simp only
      rw [sem_bind (run_underlying' hu w)]
      cases u with
      | struct fs =>
        simp only at h ⊢
        cases hm : (fs.toList.mapM fun f => (sizeT P f.type).map fun k => (f.offset, k)) with
        | none => rw [hm] at h; cases h
        | some pl =>
          rw [hm] at h
          simp only [Option.bind_some] at h
          have hr := run_mapM (P := P) (fun f : Field => (sizeT P f.type).map fun k => (f.offset, k)) (fun f : Field => do pure (f.offset, ← sizeOf f.type)) w (fun f b hb => by
            cases hs : sizeT P f.type with
            | none => rw [hs] at hb; cases hb
            | some k =>
              rw [hs] at hb
              simp at hb
              subst hb
              rw [sem_bind (run_sizeT hs w)]
              rfl) fs.toList pl hm
          rw [Array.mapM_eq_mapM_toList]
          rw [sem_bind (a := pl.toArray) (w' := w)]
          · have e1 : (fun i : Nat => pl.toArray[i]?) = (fun i : Nat => pl[i]?) := by funext i; simp
            simp only [e1, h]
            rfl
          · rw [← bind_pure_comp]
            rw [sem_bind hr]
            rfl
      | array _ e =>
        simp only at h ⊢
        cases hs : sizeT P e with
        | none => rw [hs] at h; cases h
        | some k =>
          rw [hs] at h
          simp only [Option.bind_some] at h
          rw [sem_bind (run_sizeT hs w)]
          simp only [h]
          rfl
      | _ => cases h

theorem o_build {t : TypeId} {parts : Array (Nat × Operand)} (cs : List Value) (hw : Region.wanted ⟨some d, .build t parts, ty, p, af, g⟩ (yieldedE ops n s) = true) (hb : buildC P t (parts.toList.map fun x => (x.1, rd n s x.2)) = some cs.toArray)
    (hk : OpsL P r n ops K X l (s.set d (.agg cs.toArray)) w) : OpsL P r n ops K X (⟨some d, .build t parts, ty, p, af, g⟩ :: l) s w := by
  refine o_pur hw (fun w => ?_) hk
  rw [Oper.semAt_eq _ _ _ (fun c e => by cases e)]
  simp only [execOp]
  have h2 : (parts.map fun (i, x) => (i, rd n s x)).toList = parts.toList.map fun x => (x.1, rd n s x.2) := by simp
  rw [sem_bind (run_build (P := P) (cs := cs.toArray) (by rw [h2]; exact hb) w)]
  rfl

def buildSC (P : Program) (e len : Nat) (parts : List (Nat × Value)) : Option (Array Value) :=
  (sizeT P e).bind fun k => (zeroC P e).bind fun z => if len * k > 2 ^ 24 ∨ len * k = 0 then none else Instr.fill (fun i => some (i * k, k)) ((Array.range (len * k)).map (z[· % z.size]!)) parts

theorem o_buildSlice {t e len : Nat} {parts : Array (Nat × Operand)} (hl : LH w0 M w bl) (cs : List Value) (hw : Region.wanted ⟨some d, .buildSlice t len parts, ty, p, af, g⟩ (yieldedE ops n s) = true) (hu : P.underlying t = some (.slice e)) (hb : buildSC P e len (parts.toList.map fun x => (x.1, rd n s x.2)) = some cs.toArray)
    (hk : ∀ b w', w0.heap.size ≤ b → LH w0 M w' ((b, .cells cs.toArray e (0, 0)) :: bl) → OpsL P r n ops K X l (s.set d (.slice (some ⟨b, 0, none⟩) len len)) w') : OpsL P r n ops K X (⟨some d, .buildSlice t len parts, ty, p, af, g⟩ :: l) s w := by
  refine o_val (w' := { w with heap := w.heap.push (.cells cs.toArray e) }) hw ?_ (hk w.heap.size _ hl.upd.size (hl.alloc _))
  rw [Oper.semAt_eq _ _ _ (fun c e => by cases e)]
  simp only [execOp]
  unfold buildSC at hb
  cases hs : sizeT P e with
  | none => rw [hs] at hb; cases hb
  | some k =>
    rw [hs] at hb
    simp only [Option.bind_some] at hb
    cases hz : zeroC P e with
    | none => rw [hz] at hb; cases hb
    | some z =>
      rw [hz] at hb
      simp only [Option.bind_some] at hb
      split at hb
      · cases hb
      · rename_i hsz
        obtain ⟨zv, hz1, rfl⟩ := run_zeroValue hz w
        rw [sem_bind (a := .slice (some ⟨w.heap.size, 0, none⟩) len len) (w' := { w with heap := w.heap.push (.cells cs.toArray e) })]
        · rfl
        · unfold Instr.buildSlice
          rw [sem_bind (run_underlying' hu w)]
          simp only
          rw [sem_bind (run_sizeT hs w)]
          have h1 : ¬ len * k > 2 ^ 24 := fun h => hsz (.inl h)
          have h2 : ¬ len * k = 0 := fun h => hsz (.inr h)
          simp only [h1, h2, if_false]
          rw [sem_bind hz1, sem_bind (a := zv.cells) (w' := w) rfl]
          have h3 : (parts.map fun (i, x) => (i, rd n s x)).toList = parts.toList.map fun x => (x.1, rd n s x.2) := by simp
          simp only [h3, hb]
          simp [newRow, newObj, bind, Sem.bind, Sem.run, pure]

/-! ### append -/

def Acc (v : Value) (k : Nat) (E : TypeId) (m : Nat) (xs : List Value) (acc : List (Nat × Obj)) : Prop :=
  xs.length = m * k ∧ ((v = .slice none 0 0 ∧ m = 0 ∧ acc = []) ∨
    ∃ b cap cur, v = .slice (some ⟨b, 0, none⟩) m cap ∧ acc = [(b, .cells cur E (0, 0))] ∧ m ≤ cap ∧ cap ≤ maxLen ∧ cur.size = cap * k ∧ cur.toList.take (m * k) = xs)

theorem Acc.nil (k : Nat) (E : TypeId) : Acc (.slice none 0 0) k E 0 [] [] := ⟨by simp, .inl ⟨rfl, rfl, rfl⟩⟩

theorem Acc.shape {v : Value} {k m : Nat} {E : TypeId} {xs : List Value} {acc : List (Nat × Obj)} (h : Acc v k E m xs acc) : ∃ a c, v = .slice a m c := by
  rcases h.2 with ⟨rfl, rfl, -⟩ | ⟨b, cap, cur, rfl, -⟩
  · exact ⟨_, _, rfl⟩
  · exact ⟨_, _, rfl⟩

theorem LH.acc_sl {l acc : List (Nat × Obj)} (h : LH w0 M w (l ++ acc)) {v : Value} {k m : Nat} {E : TypeId} {xs : List Value} (ha : Acc v k E m xs acc) : Sl w v k xs := by
  rcases ha.2 with ⟨rfl, rfl, rfl⟩ | ⟨b, cap, cur, rfl, rfl, h1, h2, h3, h4⟩
  · exact .inl ⟨rfl, List.eq_nil_of_length_eq_zero (by simpa using ha.1)⟩
  · refine .mk ha.1 h1 ?_
    have hb : w.heap[b]? = some (.cells cur E (0, 0)) := h.own (b, .cells cur E (0, 0)) (by simp)
    refine Row.of_block hb fun i u hi => ?_
    rw [← h4, List.getElem?_take] at hi
    split at hi
    · simpa using hi
    · cases hi

theorem LH.left {l acc : List (Nat × Obj)} (h : LH w0 M w (l ++ acc)) : LH w0 M w l := h.sub (List.sublist_append_left _ _)

theorem LH.alloc_right {l : List (Nat × Obj)} {w' : World} {o : Obj} (h : LH w0 M w l) (hh : To w w' (w.heap.push o)) : LH w0 M w' (l ++ [(w.heap.size, o)]) :=
  ((h.alloc o).heap hh).perm (by simpa using (List.perm_append_singleton (w.heap.size, o) l).symm)

theorem run_append {l acc : List (Nat × Obj)} {t ty' E : TypeId} {inf : TypeInfo} {z : Value} {k bytes m q c : Nat} {v : Value} {xs us : List Value} {b o : Nat} (h : LH w0 M w (l ++ acc)) (ha : Acc v k E m xs acc) (ht : P.underlying t = some (.slice E)) (hi : P.info? E = some inf) (hz : inf.zero = some z)
    (hsize : inf.size = k) (hby : inf.bytes = bytes) (hzs : z.cells.size = k) (hul : us.length = q * k) (hu : Row w b o us) (h1 : us.all Value.oneCell' = true) (hb : (m + q) * bytes ≤ 140737488355328) (hm : m + q ≤ 9223372036854775807) (hq : 0 < q) :
    ∃ v' w' acc', (Builtin.append_ #[t, t] ty' #[v, .slice (some ⟨b, o, none⟩) q c]).run P w = .ok v' w' ∧ LH w0 M w' (l ++ acc') ∧ Acc v' k E (m + q) (xs ++ us) acc' := by
  have hnews : ∀ j u, us[j]? = some u → w.cell? ((⟨b, o, none⟩ : Addr).add j) = some u := fun j u hj => by rw [add_mk]; exact hu j u hj
  have hlen : (xs ++ us).length = (m + q) * k := by rw [List.length_append, ha.1, hul, Nat.add_mul]
  subst hsize hby
  rcases ha.2 with ⟨rfl, rfl, rfl⟩ | ⟨b', cap, cur, rfl, rfl, h2, h3, h4, h5⟩
  · have hx : xs = [] := List.eq_nil_of_length_eq_zero (by simpa using ha.1)
    subst hx
    have hr := run_append_nil (P := P) w t ty' E inf z ht hi hz ⟨b, o, none⟩ q c us hul hnews hq (by omega) (by simp only [Nat.zero_add] at hb; omega)
    refine ⟨_, _, [(w.heap.size, _)], hr, h.left.alloc_right ⟨rfl, rfl, rfl⟩, hlen, .inr ⟨w.heap.size, _, _, by rw [Nat.zero_add], rfl, ?_, ?_, ?_, ?_⟩⟩
    · rw [Nat.zero_add]; exact grownCap_ge w q 0 E
    · exact grownCap_le_maxLen w q 0 E (by simp only [maxLen]; omega)
    · have := grownCap_ge w q 0 E
      simp only [Array.size_append, List.size_toArray, size_zeroCells, hzs, hul, ← Nat.add_mul]
      congr 1; omega
    · simp only [Nat.zero_add, List.nil_append, Array.toList_append, ← hul]
      exact List.take_left
  · have hbk : w.heap[b']? = some (.cells cur E (0, 0)) := h.own (b', .cells cur E (0, 0)) (by simp)
    by_cases hroom : m + q ≤ cap
    · have hfit : m * inf.size + us.length ≤ cur.size := by rw [hul, h4, ← Nat.add_mul]; exact Nat.mul_le_mul_right _ hroom
      have hr := run_append_room (P := P) w t ty' E inf ht hi b' m cap cur hbk ⟨b, o, none⟩ q c us hul hnews (by simpa using h1) hroom hfit
      have hidx : (l ++ [(b', Obj.cells cur E (0, 0))])[l.length]? = some (b', .cells cur E (0, 0)) := by simp
      have hp := h.put (w' := w.setRow b' (cur.toList.take (m * inf.size) ++ us ++ cur.toList.drop (m * inf.size + us.length)).toArray) l.length (o' := .cells (cur.toList.take (m * inf.size) ++ us ++ cur.toList.drop (m * inf.size + us.length)).toArray E (0, 0)) hidx (by
        refine ⟨?_, rfl, rfl⟩
        unfold World.setRow
        simp only
        apply Array.ext_getElem?
        intro k'
        rw [Array.getElem?_modify, Array.getElem?_setIfInBounds]
        have hlt : b' < w.heap.size := (Array.getElem?_eq_some_iff.1 hbk).1
        split
        · rename_i hk'; subst hk'; rw [hbk]; simp [hlt]
        · rfl)
      rw [List.set_append_right _ _ (Nat.le_refl _), Nat.sub_self, List.set_cons_zero] at hp
      refine ⟨_, _, _, hr, hp, hlen, .inr ⟨b', cap, _, rfl, rfl, hroom, h3, ?_, ?_⟩⟩
      · simp only [List.size_toArray, List.length_append, List.length_take, List.length_drop, Array.length_toList]
        omega
      · rw [h5, ← hlen]
        exact List.take_left
    · have holds : ∀ j u, xs[j]? = some u → w.cell? ((⟨b', 0, none⟩ : Addr).add j) = some u := fun j u hj => by
        rw [add_mk]
        refine cell_of_block hbk ?_
        rw [← h5, List.getElem?_take] at hj
        split at hj
        · simpa using hj
        · cases hj
      have hr := run_append_grow (P := P) w t ty' E inf z ht hi hz ⟨b', 0, none⟩ m cap xs ha.1 holds ⟨b, o, none⟩ q c us hul hnews (by omega) (by omega) (growslice_fits (by omega) hb)
      refine ⟨_, _, [(w.heap.size, _)], hr, h.left.alloc_right ⟨rfl, rfl, rfl⟩, hlen, .inr ⟨w.heap.size, _, _, rfl, rfl, grownCap_ge w (m + q) cap E, grownCap_le_maxLen w (m + q) cap E (by simp only [maxLen]; omega), ?_, ?_⟩⟩
      · have := grownCap_ge w (m + q) cap E
        simp only [Array.size_append, List.size_toArray, size_zeroCells, hzs, ha.1, hul, ← Nat.add_mul]
        congr 1; omega
      · simp only [Array.toList_append]
        rw [← hlen]
        exact List.take_left

def infoT (P : Program) (E : TypeId) : Option (Nat × Nat × Nat) := (P.info? E).bind fun i => i.zero.map fun z => (i.size, i.bytes, z.cells.size)

theorem infoT_some {E k bytes zs : Nat} (h : infoT P E = some (k, bytes, zs)) : ∃ inf z, P.info? E = some inf ∧ inf.zero = some z ∧ inf.size = k ∧ inf.bytes = bytes ∧ z.cells.size = zs := by
  unfold infoT at h
  cases hi : P.info? E with
  | none => rw [hi] at h; cases h
  | some i =>
    rw [hi] at h
    simp only [Option.bind_some] at h
    cases hz : i.zero with
    | none => rw [hz] at h; cases h
    | some z =>
      rw [hz] at h
      simp only [Option.map_some, Option.some.injEq, Prod.mk.injEq] at h
      exact ⟨i, z, rfl, hz, h.1, h.2.1, h.2.2⟩

theorem o_append {t E k bytes m q c b o : Nat} {x y : Operand} {v : Value} {xs us : List Value} {bl' acc : List (Nat × Obj)} (hl : LH w0 M w (bl' ++ acc)) (ha : Acc v k E m xs acc) (hu : Row w b o us) (hul : us.length = q * k) (h1 : us.all Value.oneCell' = true) (hq : 0 < q)
    (hb : (m + q) * bytes ≤ 140737488355328) (hm : m + q ≤ 9223372036854775807) (hw : Region.wanted ⟨some d, .call ⟨.builtin .append, #[x, y], #[t, t]⟩, ty, p, af, g⟩ (yieldedE ops n s) = true) (ht : P.underlying t = some (.slice E)) (hi : infoT P E = some (k, bytes, k))
    (hx : rd n s x = v) (hy : rd n s y = .slice (some ⟨b, o, none⟩) q c)
    (hk : ∀ v' w' acc', LH w0 M w' (bl' ++ acc') → Acc v' k E (m + q) (xs ++ us) acc' → OpsL P r n ops K X l (s.set d v') w') : OpsL P r n ops K X (⟨some d, .call ⟨.builtin .append, #[x, y], #[t, t]⟩, ty, p, af, g⟩ :: l) s w := by
  obtain ⟨inf, z, hi1, hz, hs1, hs2, hs3⟩ := infoT_some hi
  obtain ⟨v', w', acc', hr, hl', ha'⟩ := run_append (P := P) (ty' := ty) hl ha ht hi1 hz hs1 hs2 hs3 hul hu h1 hb hm hq (c := c)
  refine o_val (w' := w') hw ?_ (hk v' w' acc' hl' ha')
  rw [Oper.semAt_eq _ _ _ (fun c e => by cases e)]
  simp only [execOp, resolve, List.map_toArray, List.map_cons, List.map_nil, hx, hy]
  rw [sem_bind (w' := w) rfl]
  simp only [invoke, builtin]
  rw [sem_bind hr]
  rfl
end
end Go.Pd

/-
  Function values, ranging over a function, results in memory.
-/
set_option linter.unusedSimpArgs false
set_option linter.unnecessarySimpa false
set_option maxRecDepth 10000
set_option linter.unusedVariables false
namespace Go.Pd
variable {P : Program} {r : Option Nat} {n : Nat}

def CallV (P : Program) (fv : Value) (args : Array Value) (w : World) (R : Value → World → Prop) : Prop :=
  (∃ f ca, fv = .func (.func f) #[] ca ∧ (∀ w, (callFunc f (args ++ ca)).run P w = .ok (.enter f (args ++ ca)) w) ∧ Calls P f (args ++ ca) w (fun e w' => ∃ v, e = .returned v ∧ R v w')) ∨
  (∃ L rec, fv = .func (.yield L) #[] #[] ∧ w.heap[L]? = some (.loop rec) ∧ args.size = rec.params.size ∧
    RoundIn (FR none) 0 P L rec.fn ((rec.params.zip args).foldl (fun tmps (t, a) => tmps.setIfInBounds t a) rec.tmps) rec.assign rec.body w (fun e w' => ∃ v, e = .returned v ∧ R v w'))

theorem callV_mono {fv : Value} {args : Array Value} {w : World} {R R' : Value → World → Prop} (h : CallV P fv args w R) (hr : ∀ v w, R v w → R' v w) : CallV P fv args w R' := by
  rcases h with ⟨f, ca, h1, h2, h3⟩ | ⟨L, rec, h1, h2, h3, h4⟩
  · exact .inl ⟨f, ca, h1, h2, h3.mono fun e w ⟨v, he, hR⟩ => ⟨v, he, hr _ _ hR⟩⟩
  · exact .inr ⟨L, rec, h1, h2, h3, h4.mono fun e w ⟨v, he, hR⟩ => ⟨v, he, hr _ _ hR⟩⟩

theorem callV_func {f : FuncId} {ca args : Array Value} {w : World} {R : Value → World → Prop} (h : ∀ w, (callFunc f (args ++ ca)).run P w = .ok (.enter f (args ++ ca)) w) (hc : Calls P f (args ++ ca) w (fun e w' => ∃ v, e = .returned v ∧ R v w')) : CallV P (.func (.func f) #[] ca) args w R :=
  .inl ⟨f, ca, rfl, h, hc⟩

section
variable {ops : Array Oper} {K : St → World → Prop} {X : List PanicEntry → St → World → Prop} {l : List Oper} {s : St} {w w0 : World} {M : Nat → Prop} {bl : List (Nat × Obj)}
variable {d : Nat} {ty : TypeId} {p : String} {af : Array Edge} {g : Option (Nat × Bool)}

theorem o_callv {x : Operand} {xs : Array Operand} {ats : Array TypeId} {fv : Value} {args : Array Value} {R : Value → World → Prop} (hw : Region.wanted ⟨some d, .call ⟨.value x, xs, ats⟩, ty, p, af, g⟩ (yieldedE ops n s) = true)
    (hx : rd n s x = fv) (hargs : xs.toList.map (rd n s) = args.toList) (hc : CallV P fv args w R) (hk : ∀ v w', R v w' → OpsL P r n ops K X l (s.set d v) w') : OpsL P r n ops K X (⟨some d, .call ⟨.value x, xs, ats⟩, ty, p, af, g⟩ :: l) s w := by
  refine o_wanted hw ?_
  unfold OpW
  rw [Oper.semAt_eq _ _ _ (fun c e => by cases e)]
  have hargs' : xs.map (rd n s) = args := Array.ext' (by simpa using hargs)
  simp only [execOp, resolve, hargs', hx]
  rcases hc with ⟨f, ca, rfl, h2, h3⟩ | ⟨L, rec, rfl, h2, h3, h4⟩
  · rw [sem_bind (a := { target := .fn (.func f) ca, args := #[] ++ args }) (w' := w) rfl]
    simp only [invoke, Array.empty_append]
    rw [h2 w]
    exact Calls.mono h3 fun e w' ⟨v, he, hR⟩ => by subst he; exact hk v w' hR
  · rw [sem_bind (a := { target := .fn (.yield L) #[], args := #[] ++ args }) (w' := w) rfl]
    simp only [invoke, Array.empty_append]
    rw [run_yield h2 h3]
    exact RoundIn.mono h4 fun e w' ⟨v, he, hR⟩ => by subst he; exact hk v w' hR

end

/-! ### Rounds -/

theorem Fits.params {s : St} {tm : Array Value} : ∀ (ps : List Nat) (vs : List Value) (s : St) (tm : Array Value), Fits n s ⟨tm, s.d⟩ → Fits n ((ps.zip vs).foldl (fun s (q : Nat × Value) => s.set q.1 q.2) s) ⟨(ps.zip vs).foldl (fun tmps (q : Nat × Value) => tmps.setIfInBounds q.1 q.2) tm, s.d⟩
  | [], _, s, tm, h => by simpa using h
  | _ :: _, [], s, tm, h => by simpa using h
  | p :: ps, v :: vs, s, tm, h => by
    simp only [List.zip_cons_cons, List.foldl_cons]
    exact Fits.params (s := s) (tm := tm) ps vs (s.set p v) (tm.setIfInBounds p v) (h.put (some p) v)

def RoundQ (L : Nat) (R : Value → World → Prop) : Exit → St → World → Prop
  | .normal, _, w => ∃ rec, w.heap[L]? = some (.loop rec) ∧ ∀ w', SetAt w w' L (.loop { rec with state := .ready, pending := none }) → R (.bool true) w'
  | .ret, _, w => ∃ rec, w.heap[L]? = some (.loop rec) ∧ ∀ w', SetAt w w' L (.loop { rec with state := .done, pending := some .ret }) → R (.bool false) w'
  | .exit id, _, w => ∃ rec, w.heap[L]? = some (.loop rec) ∧ ∀ w', SetAt w w' L (.loop { rec with state := .done, pending := some (.exit id) }) → R (.bool false) w'
  | .goto id, _, w => ∃ rec, w.heap[L]? = some (.loop rec) ∧ ∀ w', SetAt w w' L (.loop { rec with state := .done, pending := some (.goto id) }) → R (.bool false) w'
  | _, _, _ => False

theorem callV_yield {L : Nat} {rec : Loop} {args : Array Value} {s : St} {w : World} {R : Value → World → Prop} (h : w.heap[L]? = some (.loop rec)) (hs : args.size = rec.params.size) (hf : Fits n s ⟨rec.tmps, s.d⟩)
    (hb : W P (some L) n rec.assign (ThenQ (fun s1 w1 => ∃ rec1, w1.heap[L]? = some (.loop rec1) ∧ rec1.state = .ready ∧ ∀ w2, SetAt w1 w2 L (.loop { rec1 with state := .busy }) → W P (some L) n rec.body (RoundQ L R) s1 w2) (fun _ _ _ => False))
      ((rec.params.toList.zip args.toList).foldl (fun s (q : Nat × Value) => s.set q.1 q.2) (⟨s.t, []⟩ : St)) w) : CallV P (.func (.yield L) #[] #[]) args w R := by
  refine .inr ⟨L, rec, rfl, h, hs, ?_⟩
  refine roundIn_of_wpIn (F := FR none) trivial ?_
  have hf' : Fits n (⟨s.t, []⟩ : St) ⟨rec.tmps, []⟩ := ⟨hf.size, hf.val, rfl⟩
  have hfp := Fits.params (s := (⟨s.t, []⟩ : St)) (tm := rec.tmps) rec.params.toList args.toList (⟨s.t, []⟩ : St) rec.tmps hf'
  have e : (rec.params.zip args).foldl (fun tmps (x : Tmp × Value) => tmps.setIfInBounds x.1 x.2) rec.tmps = (rec.params.toList.zip args.toList).foldl (fun tmps (q : Nat × Value) => tmps.setIfInBounds q.1 q.2) rec.tmps := by
    rw [← Array.foldl_toList, Array.toList_zip]
  have hw := hb _ hfp
  rw [← e] at hw
  refine wpIn_mono hw ?_
  rintro ex a' w' ⟨s', hfs, hQ⟩
  cases ex with
  | normal =>
    obtain ⟨rec1, h1, h2, h3⟩ := hQ
    refine ⟨_, run_beginRound h1 h2, ?_⟩
    refine wpIn_mono (h3 (w'.putObj L (.loop { rec1 with state := .busy })) ⟨rfl, rfl, rfl⟩ a' hfs) ?_
    rintro ex2 a2 w2 ⟨s2, hfs2, hQ2⟩
    cases ex2 with
    | normal =>
      obtain ⟨rec3, h4, h5⟩ := hQ2
      exact ⟨_, _, run_endRound none h4, _, rfl, h5 _ ⟨rfl, rfl, rfl⟩⟩
    | ret =>
      obtain ⟨rec3, h4, h5⟩ := hQ2
      exact ⟨_, _, run_endRound _ h4, _, rfl, h5 _ ⟨rfl, rfl, rfl⟩⟩
    | exit id =>
      obtain ⟨rec3, h4, h5⟩ := hQ2
      exact ⟨_, _, run_endRound _ h4, _, rfl, h5 _ ⟨rfl, rfl, rfl⟩⟩
    | goto id =>
      obtain ⟨rec3, h4, h5⟩ := hQ2
      exact ⟨_, _, run_endRound _ h4, _, rfl, h5 _ ⟨rfl, rfl, rfl⟩⟩
    | panic => exact hQ2.elim
    | outgrown => exact hQ2.elim
  | _ => exact hQ.elim

section
variable {K : St → World → Prop} {Q : Ex} {s : St} {w : World}

theorem wk_rangeFunc {gop : Operand} {gf : FuncId} {lb : Array Value} {ps : Array Tmp} {asn body : Code} (hg : rd n s gop = .func (.func gf) #[] lb) (hen : ∀ args w, (callFunc gf args).run P w = .ok (.enter gf args) w)
    (h : ∀ (fn : FuncId) (tm : Array Value) (w1 : World), Fits n s ⟨tm, s.d⟩ →
      To w w1 ((w.heap.push (.deferred (some []))).push (.loop ⟨.ready, none, fn, tm, ps, asn, body, w.heap.size⟩)) →
      Calls P gf (#[.func (.yield (w.heap.size + 1)) #[] #[]] ++ lb) w1 (fun e w3 => ∃ v, e = .returned v ∧ ∃ rec, w3.heap[w.heap.size + 1]? = some (.loop rec) ∧ rec.state ≠ .busy ∧
        ∀ w4, SetAt w3 w4 (w.heap.size + 1) (.loop { rec with state := .exhausted }) →
          match rec.pending with
          | none => K ⟨s.t, ⟨.collected w.heap.size, #[]⟩ :: s.d⟩ w4
          | some c => WK P none n c K Q ⟨s.t, ⟨.collected w.heap.size, #[]⟩ :: s.d⟩ w4)) : WK P none n (.rangeFunc gop ps asn body) K Q s w := by
  unfold WK
  intro a hf
  refine wpIn_rangeFunc (F := FR none) fun fn _ => ?_
  have hft : Fits n s ⟨a.tmps, s.d⟩ := ⟨hf.size, hf.val, rfl⟩
  let W1 : World := (w.alloc (.deferred (some []))).alloc (.loop ⟨.ready, none, fn, a.tmps, ps, asn, body, w.heap.size⟩)
  refine ⟨w.heap.size + 1, [{ target := .collected w.heap.size, args := #[] }], W1, { target := .fn (.func gf) lb, args := #[] ++ #[.func (.yield (w.heap.size + 1)) #[] #[]] }, W1, gf, #[.func (.yield (w.heap.size + 1)) #[] #[]] ++ lb, W1, run_enterLoop_outer (P := P) (w := w) fn a.tmps ps asn body, ?_, fun _ _ => trivial, ?_, (fun h0 => by simp at h0), ?_⟩
  · simp only [resolve, rangeCall]
    rw [hf.eval, hg]
    simp [Deferred.ofValue, pure, Sem.run, Act.eval]
    rfl
  · simp only [invoke, Array.empty_append]
    exact hen _ _
  · have h1 := h fn a.tmps ((w.alloc (.deferred (some []))).alloc (.loop ⟨.ready, none, fn, a.tmps, ps, asn, body, w.heap.size⟩)) hft ⟨rfl, rfl, rfl⟩
    refine (callsIn_wide (n := 0)).2 (h1.mono ?_)
    rintro e w3 ⟨v, rfl, rec, h2, h3, h4⟩
    refine ⟨rec.pending, _, run_endLoop h2 h3, ?_⟩
    have h5 := h4 (w3.putObj (w.heap.size + 1) (.loop { rec with state := .exhausted })) ⟨rfl, rfl, rfl⟩
    have hf2 : Fits n (⟨s.t, ⟨.collected w.heap.size, #[]⟩ :: s.d⟩ : St) { a with defers := [{ target := .collected w.heap.size, args := #[] }] ++ a.defers } := ⟨hf.size, hf.val, by simp [hf.defs]⟩
    cases hp : rec.pending with
    | none => rw [hp] at h5; exact ⟨_, hf2, h5⟩
    | some c =>
      rw [hp] at h5
      unfold WK at h5
      exact h5 _ hf2
end

/-! ### Results -/

def ResOK (P : Program) (n : Nat) (s : St) (w : World) : List ResultVar → List Value → Prop
  | [], [] => True
  | .tmp k :: rs, v :: vs => k < n ∧ s.t k = v ∧ ResOK P n s w rs vs
  | .cell k t :: rs, v :: vs => k < n ∧ (∃ a, s.t k = .pointer (some a) ∧ (loadVar t a).run P w = .ok v w) ∧ ResOK P n s w rs vs
  | _, _ => False

def tupleOf : List Value → Value
  | [v] => v
  | vs => .tuple vs.toArray

theorem run_resOK {s : St} {a : Act} {w : World} (hf : Fits n s a) : ∀ (rs : List ResultVar) (vs : List Value), ResOK P n s w rs vs →
    (rs.mapM fun rv => (match rv with
      | .tmp t => pure (a.tmps.getD t undef)
      | .cell ad t => do loadVar t (← asAddr (a.tmps.getD ad undef)) : Sem Value)).run P w = .ok vs w
  | [], [], _ => by simp [pure, Sem.run]
  | [], _ :: _, h => h.elim
  | .tmp k :: rs, [], h => h.elim
  | .cell k t :: rs, [], h => h.elim
  | .tmp k :: rs, v :: vs, ⟨h1, h2, h3⟩ => by
    rw [List.mapM_cons]
    rw [sem_bind (a := v) (w' := w) (by simp only [hf.val k h1, h2]; rfl)]
    rw [sem_bind (run_resOK hf rs vs h3)]
    rfl
  | .cell k t :: rs, v :: vs, ⟨h1, ⟨ad, h2, h4⟩, h3⟩ => by
    rw [List.mapM_cons]
    rw [sem_bind (a := v) (w' := w) (by
      simp only [hf.val k h1, h2]
      rw [sem_bind (a := ad) (w' := w) rfl]
      exact h4)]
    rw [sem_bind (run_resOK hf rs vs h3)]
    rfl

theorem run_results {fn : Func} {s : St} {a : Act} {w : World} {rs : List ResultVar} {vs : List Value} (hr : fn.results = rs.toArray) (hf : Fits n s a) (h : ResOK P n s w rs vs) : (results fn a.tmps).run P w = .ok (tupleOf vs) w := by
  unfold results
  rw [hr, Array.mapM_eq_mapM_toList]
  have h1 := run_resOK hf rs vs h
  rw [sem_bind (a := vs.toArray) (w' := w)]
  · match vs with
    | [] => simp [tupleOf, pure, Sem.run]
    | [v] => simp [tupleOf, pure, Sem.run]
    | _ :: _ :: _ => simp [tupleOf, pure, Sem.run]
  · rw [← bind_pure_comp]
    refine (sem_bind (w' := w) (a := vs) ?_).trans rfl
    exact h1

theorem retQ_res {fn : Func} {R : Value → World → Prop} {s : St} {w : World} {rs : List ResultVar} (vs : List Value) (hr : fn.results = rs.toArray) (hd : s.d = []) (h : ResOK P n s w rs vs) (hR : R (tupleOf vs) w) : RetQ P fn n R .ret s w := by
  unfold RetQ
  intro a hf
  rw [hd]
  exact leaves_nil (run_results hr hf h) ⟨_, rfl, hR⟩

theorem retQ_res1 {fn : Func} {R : Value → World → Prop} {s : St} {w : World} {rs : List ResultVar} {D : Nat} (vs : List Value) (hr : fn.results = rs.toArray) (hd : s.d = [⟨.collected D, #[]⟩]) (hD : w.heap[D]? = some (.deferred (some [])))
    (h : ∀ w', SetAt w w' D (.deferred none) → ResOK P n s w' rs vs ∧ R (tupleOf vs) w') : RetQ P fn n R .ret s w := by
  unfold RetQ
  intro a hf
  rw [hd]
  refine ⟨by simp, .inl ⟨D, _, rfl, run_takeDeferred hD, ?_⟩⟩
  obtain ⟨h1, h2⟩ := h (w.putObj D (.deferred none)) ⟨rfl, rfl, rfl⟩
  exact leaves_nil (run_results hr hf h1) ⟨_, rfl, h2⟩

end Go.Pd

/-
  Texts and slices cut and joined; conversions; max and min; addresses in arrays.
-/
set_option linter.unusedSimpArgs false
set_option linter.unnecessarySimpa false
set_option maxRecDepth 10000
set_option linter.unusedVariables false
namespace Go.Pd
variable {P : Program} {r : Option Nat} {n : Nat}

theorem run_sliceBound {kk : IntKind} {j m : Nat} {c : BoundsCode} {i : Int} (hi : i = (j : Int)) (h : j ≤ m) (w : World) : (Instr.sliceBound (.int kk i) m c).run P w = .ok j w := by
  subst hi
  unfold Instr.sliceBound
  rw [sem_bind (a := (kk, (j : Int))) (w' := w) rfl]
  have : (0 : Int) ≤ (j : Int) ∧ (j : Int) ≤ (m : Int) := ⟨by omega, by omega⟩
  simp only [this, and_self, if_true]
  simp [pure, Sem.run]

theorem extract_mk (bs : List UInt8) (lo hi : Nat) : (⟨bs.toArray⟩ : ByteArray).extract lo hi = ⟨((bs.take hi).drop lo).toArray⟩ := by
  apply ByteArray.ext
  rw [ByteArray.data_extract]
  simp only [List.extract_toArray]
  congr 1
  simp [List.extract_eq_take_drop, List.drop_take]

theorem run_slice_str {t lo hi : Nat} {bs : List UInt8} {kk kl : IntKind} {i j : Int} (hu : P.underlying t = some .string) (hi1 : i = (lo : Int)) (hj : j = (hi : Int)) (h1 : lo ≤ hi) (h2 : hi ≤ bs.length) (w : World) :
    (Instr.sliceAt t (str bs) (some (.int kk i)) (some (.int kl j)) none).run P w = .ok (str ((bs.take hi).drop lo)) w := by
  unfold Instr.sliceAt
  rw [sem_bind (run_underlying' hu w)]
  simp only
  unfold Instr.slice
  rw [sem_bind (run_underlying' hu w)]
  simp only [str_eq, Option.isSome_none, Bool.false_eq_true, if_false]
  rw [sem_bind (a := (lo, hi, bs.length)) (w' := w)]
  · simp only [extract_mk]; rfl
  · unfold Instr.sliceBounds
    rw [sem_bind (a := bs.length) (w' := w) (by simp [size_mk, pure, Sem.run])]
    simp only
    rw [sem_bind (a := hi) (w' := w) (run_sliceBound hj h2 w)]
    rw [sem_bind (a := lo) (w' := w) (run_sliceBound hi1 h1 w)]
    rfl

section
variable {ops : Array Oper} {K : St → World → Prop} {X : List PanicEntry → St → World → Prop} {l : List Oper} {s : St} {w w0 : World} {M : Nat → Prop} {bl : List (Nat × Obj)}
variable {d : Nat} {ty : TypeId} {p : String} {af : Array Edge} {g : Option (Nat × Bool)}

theorem o_cut2 {t : Nat} {x lo hi : Operand} {bs : List UInt8} {kk kl : IntKind} {i j : Int} (a b : Nat) (h1 : a ≤ b) (h2 : b ≤ bs.length) (hw : Region.wanted ⟨some d, .slice t x (some lo) (some hi) none, ty, p, af, g⟩ (yieldedE ops n s) = true) (hu : P.underlying t = some .string)
    (hx : rd n s x = str bs) (hlo : rd n s lo = .int kk i) (hhi : rd n s hi = .int kl j) (hi1 : i = (a : Int)) (hj : j = (b : Int))
    (hk : OpsL P r n ops K X l (s.set d (str ((bs.take b).drop a))) w) : OpsL P r n ops K X (⟨some d, .slice t x (some lo) (some hi) none, ty, p, af, g⟩ :: l) s w := by
  refine o_val hw ?_ hk
  rw [Oper.semAt_eq _ _ _ (fun c e => by cases e)]
  simp only [execOp, hx, hlo, hhi, Option.map_some, Option.map_none]
  rw [sem_bind (run_slice_str hu hi1 hj h1 h2 w)]
  rfl

theorem append_mk (a b : List UInt8) : (⟨a.toArray⟩ : ByteArray) ++ ⟨b.toArray⟩ = ⟨(a ++ b).toArray⟩ := by
  apply ByteArray.ext
  simp

theorem o_cat {t yt : Nat} {x y : Operand} {a b : List UInt8} (hlen : a.length + b.length ≤ 9223372036854775807) (hw : Region.wanted ⟨some d, .binOp .add t x y yt, ty, p, af, g⟩ (yieldedE ops n s) = true) (hx : rd n s x = str a) (hy : rd n s y = str b)
    (hk : OpsL P r n ops K X l (s.set d (str (a ++ b))) w) : OpsL P r n ops K X (⟨some d, .binOp .add t x y yt, ty, p, af, g⟩ :: l) s w := by
  refine o_val hw ?_ hk
  rw [Oper.semAt_eq _ _ _ (fun c e => by cases e)]
  have h1 : ¬ (((⟨a.toArray⟩ : ByteArray).size + (⟨b.toArray⟩ : ByteArray).size : Nat) : Int) > IntKind.i64.max := by
    rw [size_mk, size_mk]
    simp only [IntKind.max, IntKind.signed, IntKind.bits]
    simp; omega
  simp only [execOp, hx, hy, str_eq, eqGuard, binOp, Op.stringOp, append_mk, h1, if_false]
  simp [bind, Sem.bind, pure, Sem.run]

theorem o_conv {src dst : Nat} {x : Operand} {kk kl : IntKind} {a b : Int} {u : TypeDesc} (hw : Region.wanted ⟨some d, .convert src dst x, ty, p, af, g⟩ (yieldedE ops n s) = true) (h1 : P.underlying src = some u) (h2 : P.underlying dst = some (.int kl)) (hx : rd n s x = .int kk a) (hv : kl.wrap a = b)
    (hk : OpsL P r n ops K X l (s.set d (.int kl b)) w) : OpsL P r n ops K X (⟨some d, .convert src dst x, ty, p, af, g⟩ :: l) s w := by
  refine o_val hw ?_ hk
  rw [Oper.semAt_eq _ _ _ (fun c e => by cases e)]
  simp only [execOp, hx]
  subst hv
  rw [sem_bind (a := .int kl (kl.wrap a)) (w' := w)]
  · rfl
  · unfold convert
    rw [sem_bind (run_underlying' h1 w), sem_bind (run_underlying' h2 w)]
    cases u <;> rfl

theorem o_max {ats : Array TypeId} {x y : Operand} {kk : IntKind} {a b : Int} (hw : Region.wanted ⟨some d, .call ⟨.builtin .max, #[x, y], ats⟩, ty, p, af, g⟩ (yieldedE ops n s) = true) (hx : rd n s x = .int kk a) (hy : rd n s y = .int kk b)
    (hk : OpsL P r n ops K X l (s.set d (.int kk (max a b))) w) : OpsL P r n ops K X (⟨some d, .call ⟨.builtin .max, #[x, y], ats⟩, ty, p, af, g⟩ :: l) s w := by
  refine o_val hw ?_ hk
  rw [Oper.semAt_eq _ _ _ (fun c e => by cases e)]
  have e1 : (if b > a then b else a) = max a b := by
    by_cases h : b > a
    · rw [if_pos h]; omega
    · rw [if_neg h]; omega
  simp only [execOp, resolve, List.map_toArray, List.map_cons, List.map_nil, hx, hy]
  rw [sem_bind (w' := w) rfl]
  simp [invoke, builtin, Builtin.max_, Builtin.max2, bind, Sem.bind, pure, Sem.run, e1]

theorem o_min {ats : Array TypeId} {x y : Operand} {kk : IntKind} {a b : Int} (hw : Region.wanted ⟨some d, .call ⟨.builtin .min, #[x, y], ats⟩, ty, p, af, g⟩ (yieldedE ops n s) = true) (hx : rd n s x = .int kk a) (hy : rd n s y = .int kk b)
    (hk : OpsL P r n ops K X l (s.set d (.int kk (min a b))) w) : OpsL P r n ops K X (⟨some d, .call ⟨.builtin .min, #[x, y], ats⟩, ty, p, af, g⟩ :: l) s w := by
  refine o_val hw ?_ hk
  rw [Oper.semAt_eq _ _ _ (fun c e => by cases e)]
  have e1 : (if b < a then b else a) = min a b := by
    by_cases h : b < a
    · rw [if_pos h]; omega
    · rw [if_neg h]; omega
  simp only [execOp, resolve, List.map_toArray, List.map_cons, List.map_nil, hx, hy]
  rw [sem_bind (w' := w) rfl]
  simp [invoke, builtin, Builtin.min_, Builtin.min2, bind, Sem.bind, pure, Sem.run, e1]

theorem o_indexArr {t e k len : Nat} {x ix : Operand} {kk : IntKind} {i : Int} {b o : Nat} (j : Nat) (hj : j < len) (hw : Region.wanted ⟨some d, .indexAddr t x ix, ty, p, af, g⟩ (yieldedE ops n s) = true) (hu : P.underlying t = some (.array len e)) (hs : sizeT P e = some k)
    (hx : rd n s x = .pointer (some ⟨b, o, none⟩)) (hix : rd n s ix = .int kk i) (hi : i = (j : Int))
    (hk : OpsL P r n ops K X l (s.set d (.pointer (some ⟨b, o + j * k, none⟩))) w) : OpsL P r n ops K X (⟨some d, .indexAddr t x ix, ty, p, af, g⟩ :: l) s w := by
  refine o_val hw ?_ hk
  rw [Oper.semAt_eq _ _ _ (fun c e => by cases e)]
  subst hi
  simp only [execOp, hx, hix]
  rw [sem_bind (a := .pointer (some ⟨b, o + j * k, none⟩)) (w' := w)]
  · rfl
  · unfold Instr.indexAt
    rw [sem_bind (a := (kk, (j : Int))) (w' := w) rfl]
    simp only
    rw [sem_bind (run_underlying' hu w)]
    simp only
    rw [sem_bind (a := (⟨b, o, none⟩ : Addr)) (w' := w) rfl]
    rw [sem_bind (a := (some (⟨b, o, none⟩ : Addr), len, e)) (w' := w) rfl]
    have h1 : (0 : Int) ≤ (j : Int) ∧ (j : Int) < (len : Int) := ⟨by omega, by omega⟩
    rw [sem_bind (a := TypeDesc.array len e) (w' := w) (run_underlying' hu w)]
    simp only [h1, and_self, if_true]
    rw [sem_bind (run_sizeT hs w)]
    simp [pure, Sem.run, add_mk]
end

theorem wrap_u8 {x : Int} (h : 0 ≤ x ∧ x ≤ 255) : IntKind.wrap .u8 x = x := by
  simp only [IntKind.wrap, IntKind.bits, IntKind.signed]
  simp
  omega
end Go.Pd
