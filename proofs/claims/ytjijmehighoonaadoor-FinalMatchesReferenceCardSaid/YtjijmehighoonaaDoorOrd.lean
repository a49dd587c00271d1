/-
  Regions that draw their order: quiet operations in the text's order, then a forced tail.
-/
import Derived.Test.YtjijmehighoonaaDoorRng
set_option linter.unusedSimpArgs false
set_option linter.unnecessarySimpa false
set_option maxRecDepth 10000
set_option linter.unusedVariables false
namespace Go.Pd
variable {P : Program} {r : Option Nat} {n : Nat}

def Op1 (P : Program) (r : Option Nat) (n : Nat) (ops : Array Oper) (K : St → World → Prop) (X : List PanicEntry → St → World → Prop) (i : Nat) (s : St) (w : World) : Prop :=
  match ops[i]? with
  | none => K s w
  | some o => if Region.wanted o (yieldedE ops n s) then OpW P r n o s w K (fun ch w' => X ch s w') else K (s.put o.dst undef) w

theorem op1_mono {ops : Array Oper} {K K' : St → World → Prop} {X : List PanicEntry → St → World → Prop} {i : Nat} {s : St} {w : World} (hk : ∀ s w, K s w → K' s w) (h : Op1 P r n ops K X i s w) : Op1 P r n ops K' X i s w := by
  unfold Op1 at *
  cases ho : ops[i]? with
  | none => simp only [ho] at h ⊢; exact hk _ _ h
  | some o =>
    simp only [ho] at h ⊢
    split
    · rename_i hw; rw [if_pos hw] at h; exact opW_mono hk (fun _ _ h => h) h
    · rename_i hw; rw [if_neg hw] at h; exact hk _ _ h

def AnyO (P : Program) (r : Option Nat) (n : Nat) (ops : Array Oper) (K : St → World → Prop) (X : List PanicEntry → St → World → Prop) : Nat → Array Bool → St → World → Prop
  | 0, listed, s, w => Region.ready .any ops listed = [] ∧ K s w
  | f + 1, listed, s, w => (Region.ready .any ops listed = [] → K s w) ∧
      ∀ i ∈ Region.ready .any ops listed, Op1 P r n ops (AnyO P r n ops K X f (listed.setIfInBounds i true)) X i s w

theorem anyO_sound {ops : Array Oper} {K : St → World → Prop} {X : List PanicEntry → St → World → Prop} : ∀ (f t : Nat) (listed : Array Bool) (s : St) (w : World), AnyO P r n ops K X f listed s w →
    Ops P r n ops K X (Region.linearise.go .any ops f t listed []) s w := by
  intro f
  induction f with
  | zero => intro t listed s w h; simpa [Region.linearise.go, Ops] using h.2
  | succ f ih =>
    intro t listed s w h
    obtain ⟨h₀, h₁⟩ := h
    simp only [Region.linearise.go]
    change Ops P r n ops K X (match (Region.ready .any ops listed)[t % (Region.ready .any ops listed).length]? with
      | some i => Region.linearise.go .any ops f (t / (Region.ready .any ops listed).length) (listed.setIfInBounds i true) [i]
      | none => [].reverse) s w
    cases hi : (Region.ready .any ops listed)[t % (Region.ready .any ops listed).length]? with
    | none =>
      have hnil : Region.ready .any ops listed = [] := by
        cases hr : Region.ready .any ops listed with
        | nil => rfl
        | cons x xs =>
          rw [hr] at hi
          have hlt : t % (x :: xs).length < (x :: xs).length := Nat.mod_lt _ (by simp)
          simp at hi
          simp at hlt
          omega
      simpa [Ops] using h₀ hnil
    | some i =>
      simp only []
      rw [linearise_go_acc, List.reverse_singleton, List.singleton_append]
      show Op1 P r n ops (Ops P r n ops K X (Region.linearise.go .any ops f (t / (Region.ready .any ops listed).length) (listed.setIfInBounds i true) [])) X i s w
      exact op1_mono (fun s w => ih _ _ s w) (h₁ i (List.mem_of_getElem? hi))

theorem w_region_any {id : Nat} {ops : Array Oper} {Q : Exit → St → World → Prop} {s : St} {w : World} (hm : P.follows .mixedOrders = true)
    (h : ∀ w', To w w' w.heap → AnyO P r n ops (Q .normal) (fun c => Q (.panic c)) ops.size (Array.replicate ops.size false) s w') : W P r n (.region id ops true) Q s w := by
  refine w_region_draw fun t w' hw => ?_
  simp only [Region.schedule, hm, Bool.true_or, if_true]
  exact anyO_sound ops.size t _ s w' (h w' hw)

/-! ### Quiet heads, a forced tail -/

/-- The operation yields v whatever the world, and leaves it. -/
def Pur (P : Program) (r : Option Nat) (n : Nat) (o : Oper) (s : St) (v : Value) : Prop := ∀ w, (o.semAt r (rd n s)).run P w = .ok (.value v) w

/-- In every world of the class it yields v, and a world of the class. -/
def Yld (P : Program) (r : Option Nat) (n : Nat) (C : World → Prop) (o : Oper) (s : St) (v : Value) : Prop := ∀ w, C w →
  match (o.semAt r (rd n s)).run P w with
  | .ok (.value u) w' => u = v ∧ C w'
  | .ok (.enter f args) w' => Calls P f args w' (fun e w'' => e = .returned v ∧ C w'')
  | _ => False

theorem Pur.yld {C : World → Prop} {o : Oper} {s : St} {v : Value} (h : Pur P r n o s v) : Yld P r n C o s v := fun w hw => by
  rw [h w]; exact ⟨rfl, hw⟩

def isPur : Op → Bool
  | .move _ | .assign _ | .pick .. | .nilCheck _ | .binOp .. | .unOp .. | .fieldAddr .. | .field .. | .extract .. | .makeFunc .. | .build .. | .index .. | .indexAddr .. | .slice .. | .convert .. => true
  | .call { callee := .builtin .max, .. } | .call { callee := .builtin .min, .. } => true
  | _ => false

def plainOp : Op → Bool
  | .select .. | .defer _ => false
  | _ => true

/-- In every world of the class it yields v, and changes nothing. -/
def LdY (P : Program) (r : Option Nat) (n : Nat) (C : World → Prop) (o : Oper) (s : St) (v : Value) : Prop := ∀ w, C w → (o.semAt r (rd n s)).run P w = .ok (.value v) w

theorem LdY.yld {C C2 : World → Prop} (hCC : ∀ w, C w → C2 w) {o : Oper} {s : St} {v : Value} (h : LdY P r n C2 o s v) : Yld P r n C o s v := fun w hw => by
  rw [h w (hCC w hw)]; exact ⟨rfl, hw⟩

/-- A forced tail: the class C2 holds behind each of its operations. -/
def OpsC (P : Program) (r : Option Nat) (n : Nat) (ops : Array Oper) (C2 : World → Prop) (K : St → World → Prop) (X : List PanicEntry → St → World → Prop) : List Nat → St → World → Prop
  | [], s, w => K s w
  | i :: l, s, w =>
    match ops[i]? with
    | none => False
    | some o =>
      if Region.wanted o (yieldedE ops n s) then OpW P r n o s w (fun s' w' => C2 w' ∧ OpsC P r n ops C2 K X l s' w') (fun ch w' => X ch s w')
      else OpsC P r n ops C2 K X l (s.put o.dst undef) w

def OpsQ (P : Program) (r : Option Nat) (n : Nat) (ops : Array Oper) (E : List Nat) (C C2 : World → Prop) (k : St → Prop) : List Nat → St → Prop
  | [], s => k s
  | i :: l, s =>
    match ops[i]? with
    | none => False
    | some o =>
      if Region.wanted o (yieldedE ops n s) then ∃ v, (if isPur o.op then Pur P r n o s v else if E.contains i then LdY P r n C2 o s v else Yld P r n C o s v) ∧ OpsQ P r n ops E C C2 k l (s.put o.dst v)
      else OpsQ P r n ops E C C2 k l (s.put o.dst undef)

def edge (ops : Array Oper) (i j : Nat) : Bool := ((ops[i]?).map (·.after.any fun e => Region.binds .any e && e.on == j)).getD false

def anc (ops : Array Oper) : Nat → Nat → Nat → Bool
  | 0, _, _ => false
  | f + 1, i, j => ((ops[i]?).map (·.after.any fun e => Region.binds .any e && (e.on == j || anc ops f e.on j))).getD false

def dstOf (ops : Array Oper) (j : Nat) : Option Nat := (ops[j]?).bind (·.dst)

/-- Data: whoever writes what 'i' looks at stands in 'l', and is a direct predecessor. -/
def dataOk (ops : Array Oper) (l : List Nat) (i : Nat) : Bool :=
  ((ops[i]?).map fun o => (o.looksAt ops).all fun t => (List.range ops.size).all fun j => dstOf ops j != some t || (l.contains j && edge ops i j)).getD false

def headsOk (ops : Array Oper) : List Nat → List Nat → Bool
  | _, [] => true
  | done, i :: l => dataOk ops done i && !done.contains i && headsOk ops (i :: done) l

def tailOk (ops : Array Oper) : List Nat → Bool
  | a :: b :: l => anc ops ops.size b a && tailOk ops (b :: l)
  | _ => true

def opOk (ops : Array Oper) (i : Nat) : Bool :=
  ((ops[i]?).map fun o => plainOp o.op && (o.after.all fun e => !Region.binds .any e || Nat.blt e.on i)).getD false &&
    (List.range ops.size).all fun j => i == j || (dstOf ops i).isNone || dstOf ops i != dstOf ops j

def headOk (ops : Array Oper) (E T : List Nat) (h : Nat) : Bool :=
  Nat.blt h ops.size && match T with
    | [] => true
    | t :: _ => (((ops[h]?).map (isPur ·.op)).getD false || E.contains h) || anc ops ops.size t h

def regOk (ops : Array Oper) (H E T : List Nat) : Bool :=
  headsOk ops [] (H ++ T) && tailOk ops T && (List.range ops.size).all (fun i => (H.contains i || T.contains i) && opOk ops i) &&
  H.all (headOk ops E T) && T.all (fun h => Nat.blt h ops.size)

theorem rd_congr {s s' : St} {x : Operand} (h : ∀ t, x = .tmp t → s.t t = s'.t t) : rd n s x = rd n s' x := by
  cases x with
  | tmp t => simp only [rd, h t rfl]
  | _ => rfl

theorem semAt_congr {o : Oper} {s s' : St} (ops : Array Oper) (hp : plainOp o.op = true) (h : ∀ t ∈ o.looksAt ops, s.t t = s'.t t) : o.semAt r (rd n s) = o.semAt r (rd n s') := by
  have h1 : ∀ c, o.op ≠ .defer c := fun c e => by rw [e] at hp; cases hp
  have h2 : ∀ cs b, o.op ≠ .select cs b := fun c b e => by rw [e] at hp; cases hp
  rw [Oper.semAt_eq _ _ _ h1, Oper.semAt_eq _ _ _ h1]
  exact execOp_congr o h2 fun x hx => rd_congr fun t ht => h t (by
    subst ht
    exact List.mem_append_left _ (List.mem_filterMap.2 ⟨.tmp t, by simpa using hx, rfl⟩))

theorem wanted_congr {o : Oper} {s s' : St} (ops : Array Oper) (h : ∀ t ∈ o.looksAt ops, s.t t = s'.t t) : Region.wanted o (yieldedE ops n s) = Region.wanted o (yieldedE ops n s') := by
  unfold Region.wanted
  cases hg : o.guard with
  | none => rfl
  | some p =>
    obtain ⟨j, b⟩ := p
    simp only
    unfold yieldedE
    cases hd : (ops[j]?).bind (·.dst) with
    | none => rfl
    | some d =>
      simp only
      rw [h d]
      refine List.mem_append_right _ ?_
      simp only [hg]
      rw [hd]
      simp

theorem opW_transfer {o : Oper} {s s' : St} {w : World} {K K' : St → World → Prop} {X X' : List PanicEntry → World → Prop} (ops : Array Oper) (hp : plainOp o.op = true) (h : ∀ t ∈ o.looksAt ops, s.t t = s'.t t)
    (hk : ∀ v w, K (s.put o.dst v) w → K' (s'.put o.dst v) w) (hkd : ∀ d v w, K (({ s with d := d :: s.d } : St).put o.dst v) w → K' (({ s' with d := d :: s'.d } : St).put o.dst v) w) (hx : ∀ c w, X c w → X' c w) (hh : OpW P r n o s w K X) : OpW P r n o s' w K' X' := by
  unfold OpW at *
  rw [semAt_congr ops hp h] at hh
  generalize hres : (o.semAt r (rd n s')).run P w = res at *
  cases res with
  | ok m w' =>
    cases m <;> simp only at hh ⊢
    case value v => exact hk _ _ hh
    case skip => exact hk _ _ hh
    case enter f args => exact Calls.mono hh (fun e w'' he => by cases e <;> first | exact hk _ _ he | exact hx _ _ he | exact he)
    case round => exact RoundIn.mono hh (fun e w'' he => by cases e <;> first | exact hk _ _ he | exact hx _ _ he | exact he)
    case defer d => exact hkd _ _ _ hh
  | halt x w' => cases x <;> simp only at hh ⊢ <;> first | exact hx _ _ hh | exact hh


/-! ### The theorem -/
section
variable {ops : Array Oper} {H E T : List Nat} {K : St → World → Prop} {X : List PanicEntry → St → World → Prop} {C C2 : World → Prop}

def Look (ops : Array Oper) (i t : Nat) : Prop := ∃ o : Oper, ops[i]? = some o ∧ t ∈ o.looksAt ops

structure RegFacts (ops : Array Oper) (H E T : List Nat) : Prop where
  lt : ∀ i ∈ H ++ T, i < ops.size
  cover : ∀ i, i < ops.size → i ∈ H ∨ i ∈ T
  plain : ∀ (i : Nat) (o : Oper), ops[i]? = some o → plainOp o.op = true
  back : ∀ (i : Nat) (o : Oper), ops[i]? = some o → ∀ e ∈ o.after, Region.binds .any e = true → e.on < i
  dist : ∀ i j d, i ≠ j → dstOf ops i = some d → dstOf ops j ≠ some d
  data : ∀ l1 i l2, H ++ T = l1 ++ i :: l2 → i ∉ l1 ∧ ∀ t j, Look ops i t → dstOf ops j = some t → j ∈ l1 ∧ edge ops i j = true
  tail : ∀ l1 a b l2, T = l1 ++ a :: b :: l2 → anc ops ops.size b a = true
  head : ∀ h ∈ H, ∀ t l, T = t :: l → ((∃ o : Oper, ops[h]? = some o ∧ isPur o.op = true) ∨ E.contains h = true) ∨ anc ops ops.size t h = true

theorem dstOf_lt {j d : Nat} (h : dstOf ops j = some d) : j < ops.size := by
  unfold dstOf at h
  cases ho : ops[j]? with
  | none => rw [ho] at h; cases h
  | some o => exact (Array.getElem?_eq_some_iff.1 ho).1

theorem headsOk_split : ∀ (l1 : List Nat) (done : List Nat) (i : Nat) (l2 : List Nat), headsOk ops done (l1 ++ i :: l2) = true → dataOk ops (l1.reverse ++ done) i = true ∧ i ∉ l1.reverse ++ done
  | [], done, i, l2, h => by
    simp only [List.nil_append, headsOk, Bool.and_eq_true, Bool.not_eq_true'] at h
    exact ⟨h.1.1, by simpa using h.1.2⟩
  | a :: l1, done, i, l2, h => by
    simp only [List.cons_append, headsOk, Bool.and_eq_true] at h
    have := headsOk_split l1 (a :: done) i l2 h.2
    simpa using this

theorem tailOk_split : ∀ (l1 : List Nat) (a b : Nat) (l2 : List Nat), tailOk ops (l1 ++ a :: b :: l2) = true → anc ops ops.size b a = true
  | [], a, b, l2, h => by
    simp only [List.nil_append, tailOk, Bool.and_eq_true] at h
    exact h.1
  | [x], a, b, l2, h => by
    simp only [List.cons_append, List.nil_append, tailOk, Bool.and_eq_true] at h
    exact h.2.1
  | x :: y :: l1, a, b, l2, h => by
    simp only [List.cons_append, tailOk, Bool.and_eq_true] at h
    exact tailOk_split (y :: l1) a b l2 h.2

theorem regFacts (h : regOk ops H E T = true) : RegFacts ops H E T := by
  simp only [regOk, Bool.and_eq_true, List.all_eq_true, List.mem_range] at h
  obtain ⟨⟨⟨⟨h1, h2⟩, h3⟩, h4⟩, h5⟩ := h
  have hlt : ∀ i ∈ H ++ T, i < ops.size := fun i hi => by
    rcases List.mem_append.1 hi with hi | hi
    · have := h4 i hi
      simp only [headOk, Bool.and_eq_true] at this
      exact Nat.le_of_ble_eq_true this.1
    · exact Nat.le_of_ble_eq_true (h5 i hi)
  have hop : ∀ i o, ops[i]? = some o → opOk ops i = true := fun i o ho => (h3 i (Array.getElem?_eq_some_iff.1 ho).1).2
  refine ⟨hlt, fun i hi => ?_, fun i o ho => ?_, fun i o ho e he hb => ?_, fun i j d hij hi hj => ?_, fun l1 i l2 he => ?_, fun l1 a b l2 he => ?_, fun h hh t l he => ?_⟩
  · have := (h3 i hi).1
    simpa using this
  · have := hop i o ho
    simp only [opOk, ho, Option.map_some, Option.getD_some, Bool.and_eq_true] at this
    exact this.1.1
  · have := hop i o ho
    simp only [opOk, ho, Option.map_some, Option.getD_some, Bool.and_eq_true, Array.all_eq_true_iff_forall_mem] at this
    have h6 := this.1.2 e he
    simp only [hb, Bool.not_true, Bool.false_or] at h6
    exact Nat.le_of_ble_eq_true h6
  · have hil := dstOf_lt hi
    have hjl := dstOf_lt hj
    have := (h3 i hil).2
    simp only [opOk, Bool.and_eq_true, List.all_eq_true, List.mem_range] at this
    have h6 := this.2 j hjl
    simp [hi, hj, hij] at h6
  · rw [he] at h1
    obtain ⟨h6, h7⟩ := headsOk_split l1 [] i l2 h1
    simp only [List.append_nil] at h6 h7
    refine ⟨by simpa using h7, fun t j ⟨o, ho, ht⟩ hj => ?_⟩
    simp only [dataOk, ho, Option.map_some, Option.getD_some, List.all_eq_true, List.mem_range] at h6
    have h8 := h6 t ht j (dstOf_lt hj)
    simp only [hj, bne_self_eq_false, Bool.false_or, Bool.and_eq_true] at h8
    exact ⟨by simpa using h8.1, h8.2⟩
  · rw [he] at h2
    exact tailOk_split l1 a b l2 h2
  · have h6 := h4 h hh
    simp only [headOk, he, Bool.and_eq_true, Bool.or_eq_true] at h6
    rcases h6.2 with (h7 | h7) | h7
    · left; left
      cases ho : ops[h]? with
      | none => rw [ho] at h7; cases h7
      | some o => rw [ho] at h7; exact ⟨o, rfl, by simpa using h7⟩
    · exact .inl (.inr h7)
    · exact .inr h7

/-- What is known of a head at the end of the text's order. -/
def FactAt (P : Program) (r : Option Nat) (n : Nat) (ops : Array Oper) (E : List Nat) (C C2 : World → Prop) (sT : St) (i : Nat) : Prop :=
  ∃ o, ops[i]? = some o ∧ ((Region.wanted o (yieldedE ops n sT) = true ∧ ∃ v, (if isPur o.op then Pur P r n o sT v else if E.contains i then LdY P r n C2 o sT v else Yld P r n C o sT v) ∧ ∀ d, o.dst = some d → sT.t d = v) ∨
    (Region.wanted o (yieldedE ops n sT) = false ∧ ∀ d, o.dst = some d → sT.t d = undef))

theorem put_t {s : St} {d : Option Nat} {v : Value} {t : Nat} (h : d ≠ some t) : (s.put d v).t t = s.t t := by
  cases d with
  | none => rfl
  | some k => rw [put_some, St.set_t, if_neg (fun e => h (by rw [e]))]

theorem put_d (s : St) (d : Option Nat) (v : Value) : (s.put d v).d = s.d := by cases d <;> rfl

theorem opsQ_facts (F : RegFacts ops H E T) {k : St → Prop} : ∀ (l l1 : List Nat), H = l1 ++ l → ∀ s, OpsQ P r n ops E C C2 k l s →
    ∃ sT, k sT ∧ (∀ t, (∀ i ∈ l, dstOf ops i ≠ some t) → sT.t t = s.t t) ∧ sT.d = s.d ∧ ∀ i ∈ l, FactAt P r n ops E C C2 sT i
  | [], l1, _, s, h => ⟨s, h, fun _ _ => rfl, rfl, fun _ h => nomatch h⟩
  | i :: l, l1, hl, s, h => by
    simp only [OpsQ] at h
    have hsplit : H ++ T = l1 ++ i :: (l ++ T) := by rw [hl]; simp
    obtain ⟨hni, hdata⟩ := F.data l1 i (l ++ T) hsplit
    cases ho : ops[i]? with
    | none => rw [ho] at h; exact h.elim
    | some o =>
      simp only [ho] at h
      -- later heads do not write what i looks at, nor its own slot
      have hlater : ∀ j ∈ l, j ∉ l1 ∧ j ≠ i := fun j hj => by
        obtain ⟨m1, m2, rfl⟩ := List.append_of_mem hj
        have := (F.data (l1 ++ i :: m1) j (m2 ++ T) (by rw [hl]; simp)).1
        simp at this
        exact ⟨this.1, this.2.1⟩
      have hlook : ∀ t ∈ o.looksAt ops, (∀ j ∈ l, dstOf ops j ≠ some t) ∧ o.dst ≠ some t := fun t ht => by
        refine ⟨fun j hj hd => (hlater j hj).1 (hdata t j ⟨o, ho, ht⟩ hd).1, fun hd => ?_⟩
        have : dstOf ops i = some t := by simp [dstOf, ho, hd]
        exact hni (hdata t i ⟨o, ho, ht⟩ this).1
      have step : ∀ v, OpsQ P r n ops E C C2 k l (s.put o.dst v) → ∃ sT, k sT ∧ (∀ t, (∀ j ∈ i :: l, dstOf ops j ≠ some t) → sT.t t = s.t t) ∧ sT.d = s.d ∧ (∀ j ∈ l, FactAt P r n ops E C C2 sT j) ∧
          (∀ t ∈ o.looksAt ops, s.t t = sT.t t) ∧ (∀ d, o.dst = some d → sT.t d = v) := fun v hv => by
        obtain ⟨sT, h1, h2, h3, h4⟩ := opsQ_facts F l (l1 ++ [i]) (by rw [hl]; simp) _ hv
        refine ⟨sT, h1, fun t ht => ?_, by rw [h3, put_d], h4, fun t ht => ?_, fun d hd => ?_⟩
        · rw [h2 t (fun j hj => ht j (List.mem_cons_of_mem _ hj)), put_t]
          intro hd
          exact ht i List.mem_cons_self (by simp [dstOf, ho, hd])
        · rw [h2 t (hlook t ht).1, put_t (hlook t ht).2]
        · rw [h2 d (fun j hj => F.dist i j d (fun e => (hlater j hj).2 e.symm) (by simp [dstOf, ho, hd])), hd, put_some, St.set_t, if_pos rfl]
      by_cases hw : Region.wanted o (yieldedE ops n s) = true
      · rw [if_pos hw] at h
        obtain ⟨v, hv, hrest⟩ := h
        obtain ⟨sT, h1, h2, h3, h4, h5, h6⟩ := step v hrest
        refine ⟨sT, h1, h2, h3, fun j hj => ?_⟩
        rcases List.mem_cons.1 hj with rfl | hj
        · refine ⟨o, ho, .inl ⟨by rw [← wanted_congr ops h5]; exact hw, v, ?_, h6⟩⟩
          have he := semAt_congr (r := r) (n := n) ops (F.plain _ o ho) h5
          split
          · rename_i hp; rw [if_pos hp] at hv; unfold Pur at *; rw [← he]; exact hv
          · rename_i hp; rw [if_neg hp] at hv
            split
            · rename_i hp2; rw [if_pos hp2] at hv; unfold LdY at *; rw [← he]; exact hv
            · rename_i hp2; rw [if_neg hp2] at hv; unfold Yld at *; rw [← he]; exact hv
        · exact h4 j hj
      · rw [if_neg hw] at h
        obtain ⟨sT, h1, h2, h3, h4, h5, h6⟩ := step undef h
        refine ⟨sT, h1, h2, h3, fun j hj => ?_⟩
        rcases List.mem_cons.1 hj with rfl | hj
        · exact ⟨o, ho, .inr ⟨by rw [← wanted_congr ops h5]; simpa using hw, h6⟩⟩
        · exact h4 j hj

open Classical in
noncomputable def fill (ops : Array Oper) (H : List Nat) (sT s : St) : St := ⟨fun t => if ∃ j ∈ H, dstOf ops j = some t then sT.t t else s.t t, s.d⟩

structure Inv (P : Program) (r : Option Nat) (n : Nat) (ops : Array Oper) (H T : List Nat) (K : St → World → Prop) (X : List PanicEntry → St → World → Prop) (C C2 : World → Prop) (sT : St) (listed : Array Bool) (s : St) (w : World) : Prop where
  sz : listed.size = ops.size
  dc : ∀ i o, listed.getD i false = true → ops[i]? = some o → ∀ e ∈ o.after, Region.binds .any e = true → listed.getD e.on false = true
  hb : ∀ j ∈ H, listed.getD j false = true → ∀ d, dstOf ops j = some d → s.t d = sT.t d
  hc : ∀ t, (∀ j, dstOf ops j ≠ some t) → s.t t = sT.t t
  ht : ∃ T1 T2, T = T1 ++ T2 ∧ (∀ j ∈ T1, listed.getD j false = true) ∧ (∀ j ∈ T2, listed.getD j false = false) ∧
    ((T1 = [] ∧ C w ∧ fill ops H sT s = sT) ∨ (T1 ≠ [] ∧ C2 w ∧ OpsC P r n ops C2 K X T2 (fill ops H sT s) w))

theorem anc_listed {listed : Array Bool} (dc : ∀ i o, listed.getD i false = true → ops[i]? = some o → ∀ e ∈ o.after, Region.binds .any e = true → listed.getD e.on false = true) : ∀ (f i j : Nat), anc ops f i j = true →
    (∀ o, ops[i]? = some o → ∀ e ∈ o.after, Region.binds .any e = true → listed.getD e.on false = true) → listed.getD j false = true
  | 0, _, _, h, _ => by simp [anc] at h
  | f + 1, i, j, h, hi => by
    simp only [anc] at h
    cases ho : ops[i]? with
    | none => rw [ho] at h; cases h
    | some o =>
      simp only [ho, Option.map_some, Option.getD_some, Array.any_eq_true, Bool.and_eq_true, Bool.or_eq_true, beq_iff_eq] at h
      obtain ⟨q, hq, hb, h⟩ := h
      have hl := hi o ho (o.after[q]) (Array.getElem_mem hq) hb
      rcases h with h | h
      · rw [← h]; exact hl
      · exact anc_listed dc f _ j h (fun o' ho' e he hb' => dc _ o' hl ho' e he hb')

theorem edge_on {i j : Nat} {o : Oper} (h : edge ops i j = true) (ho : ops[i]? = some o) : ∃ e ∈ o.after, Region.binds .any e = true ∧ e.on = j := by
  simp only [edge, ho, Option.map_some, Option.getD_some, Array.any_eq_true, Bool.and_eq_true, beq_iff_eq] at h
  obtain ⟨q, hq, hb, h⟩ := h
  exact ⟨o.after[q], Array.getElem_mem hq, hb, h⟩

theorem filter_lt {α : Type} (p q : α → Bool) (a : α) (hpq : ∀ x, q x = true → p x = true) (ha : p a = true) (hq : q a = false) : ∀ (l : List α), a ∈ l → (l.filter q).length < (l.filter p).length
  | [], h => nomatch h
  | x :: l, h => by
    have hle : (l.filter q).length ≤ (l.filter p).length := by
      clear h
      induction l with
      | nil => simp
      | cons y l ih =>
        by_cases h1 : q y = true
        · simp [List.filter_cons, h1, hpq y h1, ih]
        · by_cases h2 : p y = true
          · simp [List.filter_cons, h1, h2]; omega
          · simp [List.filter_cons, h1, h2, ih]
    rcases List.mem_cons.1 h with rfl | h
    · simp [List.filter_cons, ha, hq]; omega
    · have := filter_lt p q a hpq ha hq l h
      by_cases h1 : q x = true
      · simp [List.filter_cons, h1, hpq x h1, this]
      · by_cases h2 : p x = true
        · simp [List.filter_cons, h1, h2]; omega
        · simp [List.filter_cons, h1, h2, this]

def unl (ops : Array Oper) (listed : Array Bool) : Nat := ((List.range ops.size).filter fun i => !listed.getD i false).length

theorem getD_flip {listed : Array Bool} {i : Nat} (hi : i < listed.size) : listed.getD i true = listed.getD i false := by
  simp [Array.getD, hi]

theorem done_all (F : RegFacts ops H E T) {listed : Array Bool} (hsz : listed.size = ops.size) (h : Region.ready .any ops listed = []) : ∀ i, i < ops.size → listed.getD i false = true := by
  intro i
  induction i using Nat.strongRecOn with
  | _ i ih =>
    intro hi
    by_cases hl : listed.getD i false = true
    · exact hl
    · exfalso
      have : i ∈ Region.ready .any ops listed := by
        rw [mem_ready]
        refine ⟨by rw [getD_flip (by omega)]; simpa using hl, ops[i], by simp [hi], fun e he hb => ?_⟩
        have h1 := F.back i ops[i] (by simp [hi]) e he hb
        exact ih e.on h1 (by omega)
      rw [h] at this
      cases this

theorem fill_self (F : RegFacts ops H E T) {sT s : St} (h : ∀ j ∈ H, ∀ d, dstOf ops j = some d → s.t d = sT.t d) : fill ops H sT s = s := by
  refine St.ext (fun t => ?_) rfl
  · simp only [fill]
    split
    · rename_i hx
      obtain ⟨j, hj, hd⟩ := hx
      exact (h j hj t hd).symm
    · rfl

theorem fill_t {sT s : St} {t : Nat} (h : ∀ j ∈ H, dstOf ops j = some t → s.t t = sT.t t) : (fill ops H sT s).t t = s.t t := by
  simp only [fill]
  split
  · rename_i hx
    obtain ⟨j, hj, hd⟩ := hx
    exact (h j hj hd).symm
  · rfl

theorem fill_put_head {sT s : St} {d : Option Nat} {v : Value} (h : ∀ t, d = some t → ∃ j ∈ H, dstOf ops j = some t) : fill ops H sT (s.put d v) = fill ops H sT s := by
  refine St.ext (fun t => ?_) ?_
  · simp only [fill]
    split
    · rfl
    · rename_i hx
      exact put_t fun e => hx (h t e)
  · simp only [fill]; exact put_d s d v

theorem fill_put_tail {sT s : St} {d : Option Nat} {v : Value} (h : ∀ t, d = some t → ¬ ∃ j ∈ H, dstOf ops j = some t) : (fill ops H sT s).put d v = fill ops H sT (s.put d v) := by
  cases d with
  | none => rfl
  | some k =>
    refine St.ext (fun t => ?_) rfl
    · rw [put_some, St.set_t]
      simp only [fill]
      by_cases hk : t = k
      · subst hk
        rw [if_pos rfl, if_neg (h t rfl), put_some, St.set_t, if_pos rfl]
      · rw [if_neg hk]
        split
        · rfl
        · rw [put_some, St.set_t, if_neg hk]

theorem inv_any (F : RegFacts ops H E T) (hX : ∀ c s s' w, X c s w → X c s' w) {sT : St} (hfact : ∀ i ∈ H, FactAt P r n ops E C C2 sT i) (hCC : ∀ w, C w → C2 w) (hT : ∀ w, C w → OpsC P r n ops C2 K X T sT w) : ∀ (f : Nat) (listed : Array Bool) (s : St) (w : World),
    unl ops listed ≤ f → Inv P r n ops H T K X C C2 sT listed s w → AnyO P r n ops K X f listed s w := by
  have hend : ∀ (listed : Array Bool) (s : St) (w : World), (∀ i, i < ops.size → listed.getD i false = true) → Inv P r n ops H T K X C C2 sT listed s w → K s w := by
    intro listed s w hall hI
    obtain ⟨T1, T2, hTe, h1, h2, h3⟩ := hI.ht
    have hT2 : T2 = [] := by
      cases T2 with
      | nil => rfl
      | cons j l =>
        have hj : j < ops.size := F.lt j (by rw [hTe]; simp)
        have := h2 j List.mem_cons_self
        rw [hall j hj] at this
        cases this
    subst hT2
    rw [List.append_nil] at hTe
    subst hTe
    have hfs : fill ops H sT s = s := fill_self F fun j hj d hd => hI.hb j hj (hall j (F.lt j (List.mem_append_left _ hj))) d hd
    rcases h3 with ⟨rfl, hC, he⟩ | ⟨_, _, h3⟩
    · have := hT w hC
      rw [← he, hfs] at this
      exact this
    · rw [hfs] at h3
      exact h3
  intro f
  induction f with
  | zero =>
    intro listed s w hu hI
    have hall : ∀ i, i < ops.size → listed.getD i false = true := fun i hi => by
      by_cases hl : listed.getD i false = true
      · exact hl
      · exfalso
        have : i ∈ (List.range ops.size).filter fun i => !listed.getD i false := by
          rw [List.mem_filter]; exact ⟨List.mem_range.2 hi, by simpa using hl⟩
        have := List.length_pos_of_mem this
        unfold unl at hu
        omega
    refine ⟨?_, hend listed s w hall hI⟩
    cases hr : Region.ready .any ops listed with
    | nil => rfl
    | cons i l =>
      have : i ∈ Region.ready .any ops listed := by rw [hr]; exact List.mem_cons_self
      rw [mem_ready] at this
      obtain ⟨h0, o, ho, -⟩ := this
      have hi : i < ops.size := (Array.getElem?_eq_some_iff.1 ho).1
      have h1 := hall i hi
      rw [getD_flip (by rw [hI.sz]; exact hi)] at h0
      rw [h0] at h1
      cases h1
  | succ f ih =>
    intro listed s w hu hI
    refine ⟨fun hr => hend listed s w (done_all F hI.sz hr) hI, fun i hir => ?_⟩
    rw [mem_ready] at hir
    obtain ⟨h0, o, ho, hpre⟩ := hir
    have hi : i < ops.size := (Array.getElem?_eq_some_iff.1 ho).1
    have hil : i < listed.size := by rw [hI.sz]; exact hi
    rw [getD_flip hil] at h0
    have hset : ∀ j, (listed.setIfInBounds i true).getD j false = if j = i then true else listed.getD j false := fun j => by
      by_cases hj : j = i
      · subst hj; simp [Array.getD, hil]
      · rw [if_neg hj, getD_set_ne false (Ne.symm hj)]
    have hpre' : ∀ o', ops[i]? = some o' → ∀ e ∈ o'.after, Region.binds .any e = true → listed.getD e.on false = true := fun o' ho' => by
      rw [ho] at ho'; cases ho'; exact hpre
    have hu' : unl ops (listed.setIfInBounds i true) ≤ f := by
      have := filter_lt (fun j => !listed.getD j false) (fun j => !(listed.setIfInBounds i true).getD j false) i (fun x hx => by
        simp only [hset] at hx
        by_cases hxi : x = i
        · subst hxi; simp at hx
        · simpa [hxi] using hx) (by simp [h0]) (by simp [hset]) (List.range ops.size) (List.mem_range.2 hi)
      unfold unl at hu ⊢
      omega
    have hdc' : ∀ j o', (listed.setIfInBounds i true).getD j false = true → ops[j]? = some o' → ∀ e ∈ o'.after, Region.binds .any e = true → (listed.setIfInBounds i true).getD e.on false = true := fun j o' hj ho' e he hb => by
      rw [hset] at hj ⊢
      by_cases hji : j = i
      · subst hji
        have := hpre' o' ho' e he hb
        simp [this]
      · rw [if_neg hji] at hj
        have := hI.dc j o' hj ho' e he hb
        simp [this]
    have hdst : dstOf ops i = o.dst := by simp [dstOf, ho]
    obtain ⟨T1, T2, hTe, h1, h2, h3⟩ := hI.ht
    rcases F.cover i hi with hH | hTm
    · -- a head
      have hiT : i ∉ T := fun hm => by
        obtain ⟨m1, m2, rfl⟩ := List.append_of_mem hm
        have := (F.data (H ++ m1) i m2 (by simp)).1
        simp at this
        exact this.1 hH
      -- what it looks at is as at the end
      have hlook : ∀ t ∈ o.looksAt ops, sT.t t = s.t t := fun t ht => by
        by_cases hx : ∃ j, dstOf ops j = some t
        · obtain ⟨j, hj⟩ := hx
          obtain ⟨l1, l2, hl⟩ := List.append_of_mem (List.mem_append_left T hH)
          obtain ⟨hjl, hje⟩ := (F.data l1 i l2 hl).2 t j ⟨o, ho, ht⟩ hj
          obtain ⟨e, he, hb, hon⟩ := edge_on hje ho
          have hlj : listed.getD j false = true := by rw [← hon]; exact hpre e he hb
          -- j is a head
          have hjH : j ∈ H := by
            rcases F.cover j (dstOf_lt hj) with h | h
            · exact h
            · exfalso
              obtain ⟨m1, m2, hm⟩ := List.append_of_mem hH
              have hl' : H ++ T = m1 ++ i :: (m2 ++ T) := by rw [hm]; simp
              have hjm := ((F.data m1 i (m2 ++ T) hl').2 t j ⟨o, ho, ht⟩ hj).1
              obtain ⟨k1, k2, hk⟩ := List.append_of_mem h
              have := (F.data (H ++ k1) j k2 (by rw [hk]; simp)).1
              simp at this
              exact this.1 (by rw [hm]; simp [hjm])
          exact (hI.hb j hjH hlj t hj).symm
        · exact (hI.hc t fun j hj => hx ⟨j, hj⟩).symm
      obtain ⟨o', ho', hf⟩ := hfact i hH
      rw [ho] at ho'; cases ho'
      have hsem : o.semAt r (rd n sT) = o.semAt r (rd n s) := semAt_congr ops (F.plain i o ho) hlook
      have hwn : Region.wanted o (yieldedE ops n sT) = Region.wanted o (yieldedE ops n s) := wanted_congr ops hlook
      have hfillH : ∀ v, fill ops H sT (s.put o.dst v) = fill ops H sT s := fun v => fill_put_head fun t ht => ⟨i, hH, by rw [hdst, ht]⟩
      -- how it goes on
      have hnext : ∀ v w', (∀ d, o.dst = some d → sT.t d = v) → ((T1 = [] ∧ C w') ∨ (T1 ≠ [] ∧ w' = w)) → AnyO P r n ops K X f (listed.setIfInBounds i true) (s.put o.dst v) w' := fun v w' hv hw' => by
        refine ih _ _ _ hu' ⟨by simpa using hI.sz, hdc', fun j hj hl d hd => ?_, fun t ht => ?_, T1, T2, hTe, fun j hj => ?_, fun j hj => ?_, ?_⟩
        · rw [hset] at hl
          by_cases hji : j = i
          · subst hji
            rw [hdst] at hd
            rw [hd, put_some, St.set_t, if_pos rfl]
            exact (hv d hd).symm
          · rw [if_neg hji] at hl
            rw [put_t]
            · exact hI.hb j hj hl d hd
            · intro e
              exact F.dist j i d hji hd (by rw [hdst, e])
        · rw [put_t]
          · exact hI.hc t ht
          · intro e
            exact ht i (by rw [hdst, e])
        · rw [hset]; simp [h1 j hj]
        · rw [hset]
          have : j ≠ i := fun e => hiT (by rw [hTe, ← e]; simp [hj])
          simp [this, h2 j hj]
        · rw [hfillH]
          rcases h3 with ⟨ha, hb, hc⟩ | ⟨ha, hb⟩
          · rcases hw' with ⟨_, hC⟩ | ⟨h', _⟩
            · exact .inl ⟨ha, hC, hc⟩
            · exact absurd ha h'
          · rcases hw' with ⟨h', _⟩ | ⟨_, rfl⟩
            · exact absurd h' ha
            · exact .inr ⟨ha, hb⟩
      show Op1 P r n ops _ X i s w
      unfold Op1
      simp only [ho]
      rcases hf with ⟨hwt, v, hv, hdv⟩ | ⟨hwf, hdv⟩
      · rw [← hwn, if_pos hwt]
        unfold OpW
        rw [← hsem]
        rcases h3 with ⟨ha, hC, hc⟩ | ⟨ha, hb⟩
        · have hy : Yld P r n C o sT v := by
            split at hv
            · exact Pur.yld hv
            · split at hv
              · exact LdY.yld hCC hv
              · exact hv
          have hyw := hy w hC
          revert hyw
          cases (o.semAt r (rd n sT)).run P w with
          | ok m w' =>
            cases m <;> simp only
            case value u =>
              rintro ⟨rfl, hC'⟩
              exact hnext _ w' hdv (.inl ⟨ha, hC'⟩)
            case enter fn args =>
              intro hcall
              refine hcall.mono fun e w'' ⟨he, hC'⟩ => ?_
              subst he
              exact hnext _ w'' hdv (.inl ⟨ha, hC'⟩)
            all_goals exact fun h => h.elim
          | halt x w' => simp only; exact fun h => h.elim
        · -- behind the first of the tail: it is pure, or a late load
          have hp : isPur o.op = true ∨ E.contains i = true := by
            cases T1 with
            | nil => exact absurd rfl ha
            | cons t l =>
              rcases F.head i hH t (l ++ T2) (by rw [hTe]; simp) with (⟨o', ho', hp⟩ | hE) | hanc
              · rw [ho] at ho'; cases ho'; exact .inl hp
              · exact .inr hE
              · exfalso
                have hlt := h1 t List.mem_cons_self
                have := anc_listed hI.dc ops.size t i hanc (fun o' ho' e he hb => hI.dc t o' hlt ho' e he hb)
                rw [h0] at this
                cases this
          have hrun : (o.semAt r (rd n sT)).run P w = .ok (.value v) w := by
            by_cases hp1 : isPur o.op = true
            · rw [if_pos hp1] at hv; exact hv w
            · rw [if_neg hp1, if_pos (hp.resolve_left hp1)] at hv; exact hv w hb.1
          rw [hrun]
          exact hnext _ w hdv (.inr ⟨ha, rfl⟩)
      · rw [← hwn, if_neg (by simp [hwf])]
        refine hnext undef w hdv ?_
        rcases h3 with ⟨ha, hC, hc⟩ | ⟨ha, hb⟩
        · exact .inl ⟨ha, hC⟩
        · exact .inr ⟨ha, rfl⟩
    · -- one of the tail: it is the next
      have hiH : i ∉ H := fun hm => by
        obtain ⟨m1, m2, hk⟩ := List.append_of_mem hTm
        have := (F.data (H ++ m1) i m2 (by rw [hk]; simp)).1
        simp at this
        exact this.1 hm
      have hiT2 : i ∈ T2 := by
        rw [hTe] at hTm
        rcases List.mem_append.1 hTm with h | h
        · have := h1 i h; rw [h0] at this; cases this
        · exact h
      obtain ⟨T2', rfl⟩ : ∃ T2', T2 = i :: T2' := by
        obtain ⟨m1, m2, hm⟩ := List.append_of_mem hiT2
        rcases List.eq_nil_or_concat m1 with rfl | ⟨m1', a, rfl⟩
        · exact ⟨m2, hm⟩
        · exfalso
          have hanc := F.tail (T1 ++ m1') a i m2 (by rw [hTe, hm]; simp)
          have := anc_listed hI.dc ops.size i a hanc hpre'
          rw [h2 a (by rw [hm]; simp)] at this
          cases this
      have hC2w : C2 w := by
        rcases h3 with ⟨_, hC, _⟩ | ⟨_, hb, _⟩
        · exact hCC w hC
        · exact hb
      have hops : OpsC P r n ops C2 K X (i :: T2') (fill ops H sT s) w := by
        rcases h3 with ⟨rfl, hC, hc⟩ | ⟨_, _, hb⟩
        · rw [hc]
          have := hT w hC
          rw [hTe] at this
          exact this
        · exact hb
      simp only [OpsC, ho] at hops
      have hnd : ∀ t, o.dst = some t → ¬ ∃ j ∈ H, dstOf ops j = some t := fun t ht ⟨j, hj, hd⟩ => by
        have hne : j ≠ i := fun e => hiH (e ▸ hj)
        exact F.dist j i t hne hd (by rw [hdst, ht])
      have hlook : ∀ t ∈ o.looksAt ops, (fill ops H sT s).t t = s.t t := fun t ht => by
        refine fill_t fun j hj hd => ?_
        obtain ⟨l1, l2, hl⟩ := List.append_of_mem (List.mem_append_right H hTm)
        obtain ⟨_, hje⟩ := (F.data l1 i l2 hl).2 t j ⟨o, ho, ht⟩ hd
        obtain ⟨e, he, hb, hon⟩ := edge_on hje ho
        exact hI.hb j hj (by rw [← hon]; exact hpre e he hb) t hd
      have hnext : ∀ (s' : St) w', (∀ t, o.dst ≠ some t → s'.t t = s.t t) → C2 w' → OpsC P r n ops C2 K X T2' (fill ops H sT s') w' → AnyO P r n ops K X f (listed.setIfInBounds i true) s' w' := fun s' w' hs' hc2 ho' => by
        refine ih _ _ _ hu' ⟨by simpa using hI.sz, hdc', fun j hj hl d hd => ?_, fun t ht => ?_, T1 ++ [i], T2', by rw [hTe]; simp, fun j hj => ?_, fun j hj => ?_, .inr ⟨by simp, hc2, ho'⟩⟩
        · have hji : j ≠ i := fun e => hiH (e ▸ hj)
          rw [hset, if_neg hji] at hl
          rw [hs' d (fun e => hnd d e ⟨j, hj, hd⟩)]
          exact hI.hb j hj hl d hd
        · rw [hs' t (fun e => ht i (by rw [hdst, e]))]
          exact hI.hc t ht
        · rw [hset]
          rcases List.mem_append.1 hj with h | h
          · simp [h1 j h]
          · simp at h; simp [h]
        · rw [hset]
          have hne : j ≠ i := by
            rintro rfl
            obtain ⟨m1, m2, rfl⟩ := List.append_of_mem hj
            have := (F.data (H ++ T1 ++ j :: m1) j m2 (by rw [hTe]; simp)).1
            simp at this
          simp [hne, h2 j (List.mem_cons_of_mem _ hj)]
      show Op1 P r n ops _ X i s w
      unfold Op1
      simp only [ho]
      have hwn : Region.wanted o (yieldedE ops n (fill ops H sT s)) = Region.wanted o (yieldedE ops n s) := wanted_congr ops hlook
      rw [hwn] at hops
      split
      · rename_i hw
        rw [if_pos hw] at hops
        refine opW_transfer ops (F.plain i o ho) hlook (fun v w' h => ?_) (fun d v w' h => ?_) (fun c w' h => hX _ _ _ _ h) hops
        · refine hnext _ _ (fun t ht => put_t ht) h.1 ?_
          rw [← fill_put_tail hnd]; exact h.2
        · refine hnext _ _ (fun t ht => put_t ht) h.1 ?_
          have e1 : (({ fill ops H sT s with d := d :: (fill ops H sT s).d } : St)) = fill ops H sT { s with d := d :: s.d } := rfl
          rw [e1] at h
          rw [← fill_put_tail hnd]; exact h.2
      · rename_i hw
        rw [if_neg hw] at hops
        refine hnext _ _ (fun t ht => put_t ht) hC2w ?_
        rw [← fill_put_tail hnd]; exact hops

/-- **A region that draws its order: the heads are walked quietly in the text's order (those in E may come late: C2), the tail behind them.** -/
theorem w_draw {id : Nat} {Q : Exit → St → World → Prop} {s : St} {w : World} (H E T : List Nat) (C C2 : World → Prop) (hm : P.follows .mixedOrders = true) (hchk : regOk ops H E T = true) (hX : ∀ c s s' w, Q (.panic c) s w → Q (.panic c) s' w) (hC : ∀ w', To w w' w.heap → C w') (hCC : ∀ w', C w' → C2 w')
    (h : OpsQ P r n ops E C C2 (fun sT => ∀ w', C w' → OpsC P r n ops C2 (Q .normal) (fun c => Q (.panic c)) T sT w') H s) : W P r n (.region id ops true) Q s w := by
  have F := regFacts hchk
  refine w_region_any hm fun w' hw' => ?_
  obtain ⟨sT, h1, h2, h3, h4⟩ := opsQ_facts F H [] (by simp) s h
  refine inv_any F hX h4 hCC h1 ops.size _ s w' ?_ ⟨by simp, fun i o hi => ?_, fun j _ hl => ?_, fun t ht => (h2 t fun j _ => ht j).symm, [], T, rfl, (fun j hj => nomatch hj), (fun j hj => ?_), .inl ⟨rfl, hC w' hw', ?_⟩⟩
  · unfold unl
    exact Nat.le_trans (List.length_filter_le _ _) (by simp)
  · exfalso; simp [Array.getD] at hi
  · exfalso; simp [Array.getD] at hl
  · simp [Array.getD]
  · refine St.ext (fun t => ?_) ?_
    · simp only [fill]
      split
      · rfl
      · rename_i hx
        exact (h2 t fun j hj hd => hx ⟨j, hj, hd⟩).symm
    · simp only [fill]; exact h3.symm
end
end Go.Pd
