/-
  A layer of symbolic execution over the kit's 'wpIn': temporaries as a function, regions, calls, loops.
-/
import Derived.RangeFuncLeaves
import Derived.RangeFuncRecord
import Derived.OrdersIn
set_option linter.unusedSimpArgs false
set_option linter.unnecessarySimpa false
set_option maxRecDepth 10000
set_option linter.unusedVariables false
namespace Go.Pd

abbrev FR (r : Option Nat) : Fence := { fn := fun _ => True, depth := none, alive := false, round := r }

theorem room_FR (r : Option Nat) (n : Nat) : (FR r).room n := fun _ h => by simp at h

/-- The other world has this memory, and the same outside. -/
def To (w w' : World) (hp : Array Obj) : Prop := w'.heap = hp ∧ w'.os = w.os ∧ w'.output = w.output
def SetAt (w w' : World) (L : Nat) (o : Obj) : Prop := To w w' (w.heap.setIfInBounds L o)

structure St where
  t : Nat → Value
  d : List Deferred

theorem beq_ne {i k : Nat} (h : i ≠ k) : Nat.beq i k = false := by
  cases hb : Nat.beq i k
  · rfl
  · exact absurd (Nat.eq_of_beq_eq_true hb) h
theorem blt_t {i k : Nat} (h : i < k) : Nat.blt i k = true := Nat.ble_eq_true_of_le h
theorem blt_f {i k : Nat} (h : ¬ i < k) : Nat.blt i k = false := by
  cases hb : Nat.blt i k
  · rfl
  · exact absurd (Nat.le_of_ble_eq_true hb) h

def St.set (s : St) (k : Nat) (v : Value) : St := ⟨fun i => bif Nat.beq i k then v else s.t i, s.d⟩
def St.put (s : St) : Option Nat → Value → St
  | some k, v => s.set k v
  | none, _ => s

@[ext] theorem St.ext {a b : St} (h : ∀ i, a.t i = b.t i) (hd : a.d = b.d) : a = b := by
  cases a; cases b; simp only [St.mk.injEq]; exact ⟨funext h, hd⟩

theorem St.set_t (s : St) (k : Nat) (v : Value) (i : Nat) : (s.set k v).t i = if i = k then v else s.t i := by
  unfold St.set
  by_cases h : i = k
  · subst h; simp
  · simp [beq_ne h, h]

structure Fits (n : Nat) (s : St) (a : Act) : Prop where
  size : a.tmps.size = n
  val : ∀ i, i < n → a.tmps.getD i undef = s.t i
  defs : a.defers = s.d

def rd (n : Nat) (s : St) : Operand → Value
  | .tmp i => bif Nat.blt i n then s.t i else undef
  | .const v => v
  | .global g => .pointer (some ⟨g, 0, none⟩)
  | .func f => .func (.func f) #[] #[]

theorem Fits.eval {n : Nat} {s : St} {a : Act} (h : Fits n s a) : a.eval = rd n s := by
  funext x
  cases x with
  | tmp i =>
    simp only [Act.eval, rd]
    by_cases hi : i < n
    · rw [blt_t hi]; exact h.val i hi
    · rw [blt_f hi]
      have hs := h.size
      simp [Array.getD, hs, hi]
  | _ => rfl

theorem Fits.put {n : Nat} {s : St} {a : Act} (h : Fits n s a) (d : Option Nat) (v : Value) : Fits n (s.put d v) (a.put d v) := by
  cases d with
  | none => exact h
  | some k =>
    refine ⟨by simp [Act.put, h.size], fun i hi => ?_, h.defs⟩
    have hv := h.val i hi
    have hs := h.size
    show (a.tmps.setIfInBounds k v).getD i undef = (s.set k v).t i
    rw [St.set_t]
    by_cases hk : i = k
    · subst hk
      rw [if_pos rfl]
      simp [Array.getD, hs, hi]
    · rw [if_neg hk, ← hv]
      simp only [Array.getD_eq_getD_getElem?]
      rw [Array.getElem?_setIfInBounds_ne (fun e => hk e.symm)]

theorem Fits.defer {n : Nat} {s : St} {a : Act} (h : Fits n s a) (d : Deferred) : Fits n { s with d := d :: s.d } { a with defers := d :: a.defers } :=
  ⟨h.size, h.val, by simp [h.defs]⟩

def yieldedE (ops : Array Oper) (n : Nat) (s : St) (j : Nat) : Option Bool :=
  match (ops[j]?).bind (·.dst) with
  | some d => bif Nat.blt d n then (match s.t d with | .bool b => some b | _ => none) else none
  | none => none

theorem Fits.yielded {n : Nat} {s : St} {a : Act} (h : Fits n s a) (ops : Array Oper) : yielded ops a.tmps = yieldedE ops n s := by
  funext j
  unfold Go.yielded yieldedE
  cases hd : (ops[j]?).bind (·.dst) with
  | none => rfl
  | some d =>
    simp only [Option.bind_some]
    by_cases hi : d < n
    · have hb : Nat.blt d n = true := blt_t hi
      have hv := h.val d hi
      have hs := h.size
      rw [hb]
      simp only [cond_true]
      rw [← hv]
      have hlt : d < a.tmps.size := hs.symm ▸ hi
      simp only [Array.getD, hlt, dite_true]
      rw [Array.getElem?_eq_getElem hlt]
      show (match some a.tmps[d] with | some (Value.bool b) => some b | _ => none) = (match a.tmps[d] with | Value.bool b => some b | _ => none)
      cases a.tmps[d] <;> rfl
    · have hb : Nat.blt d n = false := blt_f hi
      rw [hb]
      have hs := h.size
      rw [Array.getElem?_eq_none (hs ▸ Nat.le_of_not_lt hi)]
      rfl

/-- How an operation goes on. -/
def OpW (P : Program) (r : Option Nat) (n : Nat) (o : Oper) (s : St) (w : World) (K : St → World → Prop) (X : List PanicEntry → World → Prop) : Prop :=
  match (o.semAt r (rd n s)).run P w with
  | .ok (.value v) w' => K (s.put o.dst v) w'
  | .ok .skip w' => K (s.put o.dst undef) w'
  | .ok (.defer d) w' => K (({ s with d := d :: s.d } : St).put o.dst undef) w'
  | .ok (.enter f args) w' => Calls P f args w' fun
      | .returned v, w'' => K (s.put o.dst v) w''
      | .panicked ch, w'' => X ch w''
      | .outgrown, _ => False
  | .ok (.round l f tmps assign body) w' => RoundIn (FR none) 0 P l f tmps assign body w' fun
      | .returned v, w'' => K (s.put o.dst v) w''
      | .panicked ch, w'' => X ch w''
      | .outgrown, _ => False
  | .halt (.panic v) w' => X [{ v, recovered := false }] w'
  | _ => False

def Ops (P : Program) (r : Option Nat) (n : Nat) (ops : Array Oper) (K : St → World → Prop) (X : List PanicEntry → St → World → Prop) : List Nat → St → World → Prop
  | [], s, w => K s w
  | i :: l, s, w =>
    match ops[i]? with
    | none => Ops P r n ops K X l s w
    | some o =>
      if Region.wanted o (yieldedE ops n s) then OpW P r n o s w (fun s' w' => Ops P r n ops K X l s' w') (fun ch w' => X ch s w')
      else Ops P r n ops K X l (s.put o.dst undef) w

def W (P : Program) (r : Option Nat) (n : Nat) (c : Code) (Q : Exit → St → World → Prop) (s : St) (w : World) : Prop :=
  ∀ a, Fits n s a → c.wpIn (FR r) 0 P (fun e a' w' => ∃ s', Fits n s' a' ∧ Q e s' w') a w

section
variable {P : Program} {r : Option Nat} {n : Nat}

theorem opW_mono {o : Oper} {s : St} {w : World} {K K' : St → World → Prop} {X X' : List PanicEntry → World → Prop} (hk : ∀ s w, K s w → K' s w) (hx : ∀ c w, X c w → X' c w)
    (h : OpW P r n o s w K X) : OpW P r n o s w K' X' := by
  unfold OpW at *
  generalize (o.semAt r (rd n s)).run P w = res at *
  cases res with
  | ok m w' =>
    cases m <;> simp only at h ⊢ <;>
      first
        | exact hk _ _ h
        | exact Calls.mono h (fun e w'' he => by cases e <;> first | exact hk _ _ he | exact hx _ _ he | exact he)
        | exact RoundIn.mono h (fun e w'' he => by cases e <;> first | exact hk _ _ he | exact hx _ _ he | exact he)
        | exact h
  | halt x w' => cases x <;> simp only at h ⊢ <;> first | exact hx _ _ h | exact h

theorem ops_sound (ops : Array Oper) {K : St → World → Prop} {X : List PanicEntry → St → World → Prop} {Q : Exit → Act → World → Prop}
    (hK : ∀ s a w, Fits n s a → K s w → Q .normal a w) (hX : ∀ c s a w, Fits n s a → X c s w → Q (.panic c) a w) : ∀ (l : List Nat) (s : St) (a : Act) (w : World), Fits n s a →
    Ops P r n ops K X l s w → wpOpsIn (FR r) 0 P ops Q l a w
  | [], s, a, w, hf, h => hK s a w hf h
  | i :: l, s, a, w, hf, h => by
    simp only [Ops] at h
    simp only [wpOpsIn]
    cases ho : ops[i]? with
    | none => simp only [ho] at h; exact ops_sound ops hK hX l s a w hf h
    | some o =>
      simp only [ho] at h
      rw [hf.yielded]
      by_cases hw : Region.wanted o (yieldedE ops n s) = true
      · simp only [hw, if_true] at h ⊢
        refine ⟨fun _ _ => trivial, ?_⟩
        rw [hf.eval]
        unfold OpW at h
        show Oper.uponIn (FR r) 0 P o a _ _ ((o.semAt r (rd n s)).run P w)
        generalize (o.semAt r (rd n s)).run P w = res at *
        cases res with
        | ok m w' =>
          cases m <;> simp only [Oper.uponIn] at h ⊢
          case value v => exact ops_sound ops hK hX l _ _ _ (hf.put _ _) h
          case skip => exact ops_sound ops hK hX l _ _ _ (hf.put _ _) h
          case defer d => exact ops_sound ops hK hX l _ _ _ ((hf.defer d).put _ _) h
          case enter f args =>
            refine ⟨fun h0 => by simp at h0, ?_⟩
            have h1 : CallsIn Fence.wide 0 P f args w' _ := (callsIn_wide (n := 0)).2 h
            refine (show CallsIn (FR r) 0 P f args w' _ from ⟨trivial, fun cs hr => ?_⟩)
            obtain ⟨e, w2, fr, hR, hc, hfn, hl⟩ := h1.2 cs (room_wide _)
            refine ⟨e, w2, fr, ?_, hc, hfn, hl⟩
            cases e with
            | returned v => exact ops_sound ops hK hX l _ _ _ (hf.put _ _) hR
            | panicked ch => exact hX _ _ _ _ hf hR
            | outgrown => exact hR.elim
          case round lp f tmps asn body =>
            refine ⟨fun h0 => by simp at h0, trivial, fun c cs hr => ?_⟩
            obtain ⟨e, w2, hR, hc⟩ := h.2 c cs (room_FR none _)
            refine ⟨e, w2, ?_, hc⟩
            cases e with
            | returned v => exact ops_sound ops hK hX l _ _ _ (hf.put _ _) hR
            | panicked ch => exact hX _ _ _ _ hf hR
            | outgrown => exact hR.elim
        | halt x w' =>
          cases x <;> simp only [Oper.uponIn] at h ⊢
          exact hX _ _ _ _ hf h
      · simp only [hw] at h ⊢
        exact ⟨fun _ _ => trivial, ops_sound ops hK hX l _ _ _ (hf.put _ _) h⟩

variable {Q : Exit → St → World → Prop} {s : St} {w : World}

theorem w_mono {c : Code} {Q' : Exit → St → World → Prop} (h : W P r n c Q s w) (hq : ∀ e s w, Q e s w → Q' e s w) : W P r n c Q' s w :=
  fun a hf => wpIn_mono (h a hf) fun _ _ _ ⟨s', hf', hQ⟩ => ⟨s', hf', hq _ _ _ hQ⟩

theorem w_region {id : Nat} {ops : Array Oper} (h : Ops P r n ops (Q .normal) (fun c => Q (.panic c)) (List.range ops.size) s w) : W P r n (.region id ops false) Q s w :=
  fun a hf => wpIn_region (ops_sound ops (fun s a w hf h => ⟨s, hf, h⟩) (fun c s a w hf h => ⟨s, hf, h⟩) _ s a w hf h)

theorem w_region_draw {id : Nat} {ops : Array Oper} (h : ∀ t w', To w w' w.heap → Ops P r n ops (Q .normal) (fun c => Q (.panic c)) (Region.schedule (P.follows .mixedOrders) ops t) s w') : W P r n (.region id ops true) Q s w :=
  fun a hf => wpIn_region_draw fun t => ops_sound ops (fun s a w hf h => ⟨s, hf, h⟩) (fun c s a w hf h => ⟨s, hf, h⟩) _ s a _ hf (h t _ ⟨rfl, rfl, rfl⟩)

theorem w_skip (h : Q .normal s w) : W P r n .skip Q s w := fun _ hf => wpIn_skip ⟨s, hf, h⟩
theorem w_label {l : Nat} (h : Q .normal s w) : W P r n (.label l) Q s w := fun _ hf => wpIn_label ⟨s, hf, h⟩
theorem w_exit {id : Nat} (h : Q (.exit id) s w) : W P r n (.exit id) Q s w := fun _ hf => wpIn_exit ⟨s, hf, h⟩
theorem w_goto {id : Nat} (h : Q (.goto id) s w) : W P r n (.goto id) Q s w := fun _ hf => wpIn_goto ⟨s, hf, h⟩
theorem w_ret (h : Q .ret s w) : W P r n .ret Q s w := fun _ hf => wpIn_ret ⟨s, hf, h⟩

/-- What is asked behind the first half of a sequence. -/
def ThenQ (K : St → World → Prop) (Q : Exit → St → World → Prop) : Exit → St → World → Prop
  | .normal, s, w => K s w
  | e, s, w => Q e s w

theorem w_seq {x y : Code} (h : W P r n x (ThenQ (W P r n y Q) Q) s w) : W P r n (.seq x y) Q s w := fun a hf => wpIn_seq (wpIn_mono (h a hf) fun e a' w' ⟨s', hf', hQ⟩ => by
  cases e with
  | normal => exact hQ a' hf'
  | _ => exact ⟨s', hf', hQ⟩)

theorem w_cond {c : Operand} {x y : Code} {b : Bool} (hc : rd n s c = .bool b) (ht : b = true → W P r n x Q s w) (hf' : b = false → W P r n y Q s w) : W P r n (.cond c x y) Q s w :=
  fun a hf => wpIn_cond_split (t := b) (by rw [hf.eval]; exact hc) (fun e => ht e a hf) (fun e => hf' e a hf)
theorem w_cond_t {c : Operand} {x y : Code} (hc : rd n s c = .bool true) (h : W P r n x Q s w) : W P r n (.cond c x y) Q s w := w_cond hc (fun _ => h) (fun e => by cases e)
theorem w_cond_f {c : Operand} {x y : Code} (hc : rd n s c = .bool false) (h : W P r n y Q s w) : W P r n (.cond c x y) Q s w := w_cond hc (fun e => by cases e) (fun _ => h)

def BlockQ (id : Nat) (Q : Exit → St → World → Prop) : Exit → St → World → Prop
  | .exit id', s, w => if id' = id then Q .normal s w else Q (.exit id') s w
  | e, s, w => Q e s w

theorem w_block {id : Nat} {c : Code} (h : W P r n c (BlockQ id Q) s w) : W P r n (.block id c) Q s w := fun a hf => wpIn_block (wpIn_mono (h a hf) fun e a' w' ⟨s', hf', hQ⟩ => by
  cases e with
  | exit id' =>
    simp only [BlockQ] at hQ
    simp only [Exit.inBlock]
    by_cases hid : id' = id
    · simp only [hid, if_true] at hQ ⊢; exact ⟨s', hf', hQ⟩
    · simp only [hid, if_false] at hQ ⊢; exact ⟨s', hf', hQ⟩
  | _ => exact ⟨s', hf', hQ⟩)

theorem wpIn_loop_ghost {α : Type} {c : Code} {QA : Exit → Act → World → Prop} (I : α → Act → World → Prop) (μ : α → Nat)
    (round : ∀ x a w, I x a w → c.wpIn (FR r) 0 P (Exit.then (fun a' w' => ∃ x', I x' a' w' ∧ μ x' < μ x) QA) a w) {x₀ : α} {a₀ : Act} {w₀ : World} (h₀ : I x₀ a₀ w₀) : (Code.loop c).wpIn (FR r) 0 P QA a₀ w₀ := by
  intro b k cs hro hb hr
  have key : ∀ j x a w, μ x = j → I x a w →
      ∃ e a' w', QA e a' w' ∧ ArrivesIn (Machine.fenced P (FR r)) P (lone (b.atR a (.code c :: .inLoop c :: k)) cs w) b k cs e a' w' := by
    intro j
    induction j using Nat.strongRecOn with
    | _ j ih =>
      intro x a w hn hI
      obtain ⟨e, a₁, w₁, hq, harr⟩ := round x a w hI b (.inLoop c :: k) cs hro hb hr
      cases e with
      | normal =>
        obtain ⟨x₁, hI₁, hlt⟩ := hq
        obtain ⟨e₂, a₂, w₂, hq₂, harr₂⟩ := ih (μ x₁) (hn ▸ hlt) x₁ a₁ w₁ rfl hI₁
        exact ⟨e₂, a₂, w₂, hq₂, .of_steps (StepsIn.trans harr (.one (fenced_calm hb hr rfl) stepR_inLoop)) harr₂⟩
      | exit id => exact ⟨_, a₁, w₁, hq, .pass (x := .inLoop c) rfl (fun _ _ => .inl (by simp)) harr⟩
      | goto l => exact ⟨_, a₁, w₁, hq, .pass (x := .inLoop c) rfl (fun _ _ => .inl (by simp)) harr⟩
      | ret => exact ⟨_, a₁, w₁, hq, .pass (x := .inLoop c) rfl (fun _ _ => .inl (by simp)) harr⟩
      | panic ch => exact ⟨_, a₁, w₁, hq, .pass (x := .inLoop c) rfl (fun _ _ => .inl (by simp)) harr⟩
      | outgrown => exact ⟨_, a₁, w₁, hq, .pass (x := .inLoop c) rfl (fun _ _ => .inl (by simp)) harr⟩
  obtain ⟨e, a', w', hq, harr⟩ := key _ x₀ a₀ w₀ rfl h₀
  exact ⟨e, a', w', hq, .of_steps (.one (fenced_calm hb hr rfl) stepR_loop) harr⟩

/-- A loop: 'x' is what is known at its head (a ghost), 'μ' a measure of it. -/
theorem w_loop {α : Type} {c : Code} (I : α → St → World → Prop) (μ : α → Nat) (x₀ : α) (h₀ : I x₀ s w)
    (round : ∀ x s w, I x s w → W P r n c (ThenQ (fun s' w' => ∃ x', I x' s' w' ∧ μ x' < μ x) Q) s w) : W P r n (.loop c) Q s w := fun a hf =>
  wpIn_loop_ghost (fun x a w => ∃ s, Fits n s a ∧ I x s w) μ (fun x a w ⟨s, hf, hI⟩ => wpIn_mono (round x s w hI a hf) fun e a' w' ⟨s', hf', hQ⟩ => by
    cases e with
    | normal => obtain ⟨x', hI', hlt⟩ := hQ; exact ⟨x', ⟨s', hf', hI'⟩, hlt⟩
    | _ => exact ⟨s', hf', hQ⟩) ⟨s, hf, h₀⟩

/-- The start of a function's frame. -/
def st0 (args : Array Value) : St := ⟨fun i => args.getD i undef, []⟩

/-- What a function's body must achieve. -/
def RetQ (P : Program) (fn : Func) (n : Nat) (R : Value → World → Prop) : Exit → St → World → Prop
  | .normal, s, w | .ret, s, w => ∀ a, Fits n s a → LeavesInM (FR none) 0 P fn a.tmps (fun e w' => ∃ v, e = .returned v ∧ R v w') s.d .returning w
  | _, _, _ => False

theorem calls_of_w {f : FuncId} {fn : Func} {c : Code} {args : Array Value} {w : World} {R : Value → World → Prop}
    (hf : P.funcs[f]? = some fn) (hb : fn.body = some c) (hn : args.size ≤ fn.ntmps)
    (h : W P none fn.ntmps c (RetQ P fn fn.ntmps R) (st0 args) w) : Calls P f args w (fun e w' => ∃ v, e = .returned v ∧ R v w') := by
  refine (callsIn_wide (n := 0)).1 (callsIn_of_wp_marks hf hb trivial ?_)
  refine wpIn_mono (h { tmps := args ++ Array.replicate (fn.ntmps - args.size) undef, defers := [] } ⟨by simp; omega, fun i hi => ?_, rfl⟩) ?_
  · show (args ++ Array.replicate (fn.ntmps - args.size) undef).getD i undef = args.getD i undef
    simp only [Array.getD_eq_getD_getElem?, Array.getElem?_append, Array.getElem?_replicate]
    by_cases h1 : i < args.size
    · simp [h1]
    · simp [h1]
      split <;> simp
  · rintro e a' w' ⟨s', hf', hQ⟩
    cases e with
    | normal => have := hQ a' hf'; rw [← hf'.defs] at this; exact this
    | ret => have := hQ a' hf'; rw [← hf'.defs] at this; exact this
    | _ => exact hQ.elim

/-- Returning with no deferred calls. -/
theorem leaves_nil {fn : Func} {tmps : Array Value} {R : Ending → World → Prop} {v : Value} {w : World} (h : (results fn tmps).run P w = .ok v w) (hR : R (.returned v) w) :
    LeavesInM (FR none) 0 P fn tmps R [] .returning w := ⟨v, h, hR⟩

theorem retQ_tmp1 {fn : Func} {R : Value → World → Prop} {k : Nat} {v : Value} (hr : fn.results = #[.tmp k]) (hk : k < n) (hd : s.d = []) (hv : s.t k = v) (hR : R v w) : RetQ P fn n R .ret s w := by
  intro a hf
  rw [hd]
  refine leaves_nil (v := v) ?_ ⟨v, rfl, hR⟩
  have := hf.val k hk
  rw [hv] at this
  simp only [results, hr]
  simp only [Array.getD_eq_getD_getElem?] at this
  simp [this, pure, Sem.run]

theorem retQ_tmp0 {fn : Func} {R : Value → World → Prop} (hr : fn.results = #[]) (hd : s.d = []) (hR : R (.tuple #[]) w) : RetQ P fn n R .ret s w := by
  intro a hf
  rw [hd]
  refine leaves_nil (v := .tuple #[]) ?_ ⟨_, rfl, hR⟩
  simp only [results, hr]
  simp [pure, Sem.run]

theorem retQ_tmp2 {fn : Func} {R : Value → World → Prop} {k l : Nat} {v u : Value} (hr : fn.results = #[.tmp k, .tmp l]) (hk : k < n) (hl : l < n) (hd : s.d = []) (hv : s.t k = v) (hu : s.t l = u) (hR : R (.tuple #[v, u]) w) : RetQ P fn n R .ret s w := by
  intro a hf
  rw [hd]
  refine leaves_nil (v := .tuple #[v, u]) ?_ ⟨_, rfl, hR⟩
  have h1 := hf.val k hk
  have h2 := hf.val l hl
  rw [hv] at h1
  rw [hu] at h2
  simp only [results, hr]
  simp only [Array.getD_eq_getD_getElem?] at h1 h2
  simp [h1, h2, pure, Sem.run]

theorem retQ_tmp3 {fn : Func} {R : Value → World → Prop} {k l m : Nat} {v u x : Value} (hr : fn.results = #[.tmp k, .tmp l, .tmp m]) (hk : k < n) (hl : l < n) (hm : m < n) (hd : s.d = []) (hv : s.t k = v) (hu : s.t l = u) (hx : s.t m = x) (hR : R (.tuple #[v, u, x]) w) : RetQ P fn n R .ret s w := by
  intro a hf
  rw [hd]
  refine leaves_nil (v := .tuple #[v, u, x]) ?_ ⟨_, rfl, hR⟩
  have h1 := hf.val k hk
  have h2 := hf.val l hl
  have h3 := hf.val m hm
  rw [hv] at h1
  rw [hu] at h2
  rw [hx] at h3
  simp only [results, hr]
  simp only [Array.getD_eq_getD_getElem?] at h1 h2 h3
  simp [h1, h2, h3, pure, Sem.run]

end
end Go.Pd
