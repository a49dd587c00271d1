/-
  Regions that draw their order: quiet operations in the text's order, then a forced tail.
-/
import Derived.Test.YtpmjolbnmoejdaaGreatDoorQLA
import Derived.Lib.Bytealg
import Derived.Scope
import Derived.Laws.StructEq
set_option linter.unusedSimpArgs false
set_option linter.unnecessarySimpa false
set_option maxRecDepth 10000
set_option linter.unusedVariables false
namespace Go.Pd
variable {P : Program} {r : Option Nat} {n : Nat}

def Op1 (P : Program) (r : Option Nat) (n : Nat) (ops : Array Oper) (K : St → World → Prop) (X : List PanicEntry → St → World → Prop) (i : Nat) (s : St) (w : World) : Prop :=
  match ops[i]? with
  | none => K s w
  | some o => if Region.wanted o (yieldedE ops n s) then OpW P r n o s w K (fun ch w' => X ch s w') else K (s.put o.dst undef) w

theorem op1_mono {ops : Array Oper} {K K' : St → World → Prop} {X : List PanicEntry → St → World → Prop} {i : Nat} {s : St} {w : World} (hk : ∀ s w, K s w → K' s w) (h : Op1 P r n ops K X i s w) : Op1 P r n ops K' X i s w := by
  unfold Op1 at *
  cases ho : ops[i]? with
  | none => simp only [ho] at h ⊢; exact hk _ _ h
  | some o =>
    simp only [ho] at h ⊢
    split
    · rename_i hw; rw [if_pos hw] at h; exact opW_mono hk (fun _ _ h => h) h
    · rename_i hw; rw [if_neg hw] at h; exact hk _ _ h

def AnyO (P : Program) (r : Option Nat) (n : Nat) (ops : Array Oper) (K : St → World → Prop) (X : List PanicEntry → St → World → Prop) : Nat → Array Bool → St → World → Prop
  | 0, listed, s, w => Region.ready .any ops listed = [] ∧ K s w
  | f + 1, listed, s, w => (Region.ready .any ops listed = [] → K s w) ∧
      ∀ i ∈ Region.ready .any ops listed, Op1 P r n ops (AnyO P r n ops K X f (listed.setIfInBounds i true)) X i s w

theorem anyO_sound {ops : Array Oper} {K : St → World → Prop} {X : List PanicEntry → St → World → Prop} : ∀ (f t : Nat) (listed : Array Bool) (s : St) (w : World), AnyO P r n ops K X f listed s w →
    Ops P r n ops K X (Region.linearise.go .any ops f t listed []) s w := by
  intro f
  induction f with
  | zero => intro t listed s w h; simpa [Region.linearise.go, Ops] using h.2
  | succ f ih =>
    intro t listed s w h
    obtain ⟨h₀, h₁⟩ := h
    simp only [Region.linearise.go]
    change Ops P r n ops K X (match (Region.ready .any ops listed)[t % (Region.ready .any ops listed).length]? with
      | some i => Region.linearise.go .any ops f (t / (Region.ready .any ops listed).length) (listed.setIfInBounds i true) [i]
      | none => [].reverse) s w
    cases hi : (Region.ready .any ops listed)[t % (Region.ready .any ops listed).length]? with
    | none =>
      have hnil : Region.ready .any ops listed = [] := by
        cases hr : Region.ready .any ops listed with
        | nil => rfl
        | cons x xs =>
          rw [hr] at hi
          have hlt : t % (x :: xs).length < (x :: xs).length := Nat.mod_lt _ (by simp)
          simp at hi
          simp at hlt
          omega
      simpa [Ops] using h₀ hnil
    | some i =>
      simp only []
      rw [linearise_go_acc, List.reverse_singleton, List.singleton_append]
      show Op1 P r n ops (Ops P r n ops K X (Region.linearise.go .any ops f (t / (Region.ready .any ops listed).length) (listed.setIfInBounds i true) [])) X i s w
      exact op1_mono (fun s w => ih _ _ s w) (h₁ i (List.mem_of_getElem? hi))

theorem w_region_any {id : Nat} {ops : Array Oper} {Q : Exit → St → World → Prop} {s : St} {w : World} (hm : P.follows .mixedOrders = true)
    (h : ∀ w', To w w' w.heap → AnyO P r n ops (Q .normal) (fun c => Q (.panic c)) ops.size (Array.replicate ops.size false) s w') : W P r n (.region id ops true) Q s w := by
  refine w_region_draw fun t w' hw => ?_
  simp only [Region.schedule, hm, Bool.true_or, if_true]
  exact anyO_sound ops.size t _ s w' (h w' hw)

/-! ### Quiet heads, a forced tail -/

def Pur (P : Program) (r : Option Nat) (n : Nat) (o : Oper) (s : St) (v : Value) : Prop := ∀ w, (o.semAt r (rd n s)).run P w = .ok (.value v) w

def Yld (P : Program) (r : Option Nat) (n : Nat) (C : World → Prop) (o : Oper) (s : St) (v : Value) : Prop := ∀ w, C w →
  match (o.semAt r (rd n s)).run P w with
  | .ok (.value u) w' => u = v ∧ C w'
  | .ok (.enter f args) w' => Calls P f args w' (fun e w'' => e = .returned v ∧ C w'')
  | _ => False

theorem Pur.yld {C : World → Prop} {o : Oper} {s : St} {v : Value} (h : Pur P r n o s v) : Yld P r n C o s v := fun w hw => by
  rw [h w]; exact ⟨rfl, hw⟩

def isPur : Op → Bool
  | .move _ | .assign _ | .pick .. | .nilCheck _ | .binOp .. | .unOp .. | .fieldAddr .. | .field .. | .extract .. | .makeFunc .. | .build .. | .index .. | .indexAddr .. | .slice .. | .convert .. => true
  | .call { callee := .builtin .max, .. } | .call { callee := .builtin .min, .. } => true
  | _ => false

def plainOp : Op → Bool
  | .select .. | .defer _ => false
  | _ => true

def LdY (P : Program) (r : Option Nat) (n : Nat) (C : World → Prop) (o : Oper) (s : St) (v : Value) : Prop := ∀ w, C w → (o.semAt r (rd n s)).run P w = .ok (.value v) w

theorem LdY.yld {C C2 : World → Prop} (hCC : ∀ w, C w → C2 w) {o : Oper} {s : St} {v : Value} (h : LdY P r n C2 o s v) : Yld P r n C o s v := fun w hw => by
  rw [h w (hCC w hw)]; exact ⟨rfl, hw⟩

def OpsC (P : Program) (r : Option Nat) (n : Nat) (ops : Array Oper) (C2 : World → Prop) (K : St → World → Prop) (X : List PanicEntry → St → World → Prop) : List Nat → St → World → Prop
  | [], s, w => K s w
  | i :: l, s, w =>
    match ops[i]? with
    | none => False
    | some o =>
      if Region.wanted o (yieldedE ops n s) then OpW P r n o s w (fun s' w' => C2 w' ∧ OpsC P r n ops C2 K X l s' w') (fun ch w' => X ch s w')
      else OpsC P r n ops C2 K X l (s.put o.dst undef) w

def OpsQ (P : Program) (r : Option Nat) (n : Nat) (ops : Array Oper) (E : List Nat) (C C2 : World → Prop) (k : St → Prop) : List Nat → St → Prop
  | [], s => k s
  | i :: l, s =>
    match ops[i]? with
    | none => False
    | some o =>
      if Region.wanted o (yieldedE ops n s) then ∃ v, (if isPur o.op then Pur P r n o s v else if E.contains i then LdY P r n C2 o s v else Yld P r n C o s v) ∧ OpsQ P r n ops E C C2 k l (s.put o.dst v)
      else OpsQ P r n ops E C C2 k l (s.put o.dst undef)

def edge (ops : Array Oper) (i j : Nat) : Bool := ((ops[i]?).map (·.after.any fun e => Region.binds .any e && e.on == j)).getD false

def anc (ops : Array Oper) : Nat → Nat → Nat → Bool
  | 0, _, _ => false
  | f + 1, i, j => ((ops[i]?).map (·.after.any fun e => Region.binds .any e && (e.on == j || anc ops f e.on j))).getD false

def dstOf (ops : Array Oper) (j : Nat) : Option Nat := (ops[j]?).bind (·.dst)

def dataOk (ops : Array Oper) (l : List Nat) (i : Nat) : Bool :=
  ((ops[i]?).map fun o => (o.looksAt ops).all fun t => (List.range ops.size).all fun j => dstOf ops j != some t || (l.contains j && edge ops i j)).getD false

def headsOk (ops : Array Oper) : List Nat → List Nat → Bool
  | _, [] => true
  | done, i :: l => dataOk ops done i && !done.contains i && headsOk ops (i :: done) l

def tailOk (ops : Array Oper) : List Nat → Bool
  | a :: b :: l => anc ops ops.size b a && tailOk ops (b :: l)
  | _ => true

def opOk (ops : Array Oper) (i : Nat) : Bool :=
  ((ops[i]?).map fun o => plainOp o.op && (o.after.all fun e => !Region.binds .any e || Nat.blt e.on i)).getD false &&
    (List.range ops.size).all fun j => i == j || (dstOf ops i).isNone || dstOf ops i != dstOf ops j

def headOk (ops : Array Oper) (E T : List Nat) (h : Nat) : Bool :=
  Nat.blt h ops.size && match T with
    | [] => true
    | t :: _ => (((ops[h]?).map (isPur ·.op)).getD false || E.contains h) || anc ops ops.size t h

def regOk (ops : Array Oper) (H E T : List Nat) : Bool :=
  headsOk ops [] (H ++ T) && tailOk ops T && (List.range ops.size).all (fun i => (H.contains i || T.contains i) && opOk ops i) &&
  H.all (headOk ops E T) && T.all (fun h => Nat.blt h ops.size)

theorem rd_congr {s s' : St} {x : Operand} (h : ∀ t, x = .tmp t → s.t t = s'.t t) : rd n s x = rd n s' x := by
  cases x with
  | tmp t => simp only [rd, h t rfl]
  | _ => rfl

theorem semAt_congr {o : Oper} {s s' : St} (ops : Array Oper) (hp : plainOp o.op = true) (h : ∀ t ∈ o.looksAt ops, s.t t = s'.t t) : o.semAt r (rd n s) = o.semAt r (rd n s') := by
  have h1 : ∀ c, o.op ≠ .defer c := fun c e => by rw [e] at hp; cases hp
  have h2 : ∀ cs b, o.op ≠ .select cs b := fun c b e => by rw [e] at hp; cases hp
  rw [Oper.semAt_eq _ _ _ h1, Oper.semAt_eq _ _ _ h1]
  exact execOp_congr o h2 fun x hx => rd_congr fun t ht => h t (by
    subst ht
    exact List.mem_append_left _ (List.mem_filterMap.2 ⟨.tmp t, by simpa using hx, rfl⟩))

theorem wanted_congr {o : Oper} {s s' : St} (ops : Array Oper) (h : ∀ t ∈ o.looksAt ops, s.t t = s'.t t) : Region.wanted o (yieldedE ops n s) = Region.wanted o (yieldedE ops n s') := by
  unfold Region.wanted
  cases hg : o.guard with
  | none => rfl
  | some p =>
    obtain ⟨j, b⟩ := p
    simp only
    unfold yieldedE
    cases hd : (ops[j]?).bind (·.dst) with
    | none => rfl
    | some d =>
      simp only
      rw [h d]
      refine List.mem_append_right _ ?_
      simp only [hg]
      rw [hd]
      simp

theorem opW_transfer {o : Oper} {s s' : St} {w : World} {K K' : St → World → Prop} {X X' : List PanicEntry → World → Prop} (ops : Array Oper) (hp : plainOp o.op = true) (h : ∀ t ∈ o.looksAt ops, s.t t = s'.t t)
    (hk : ∀ v w, K (s.put o.dst v) w → K' (s'.put o.dst v) w) (hkd : ∀ d v w, K (({ s with d := d :: s.d } : St).put o.dst v) w → K' (({ s' with d := d :: s'.d } : St).put o.dst v) w) (hx : ∀ c w, X c w → X' c w) (hh : OpW P r n o s w K X) : OpW P r n o s' w K' X' := by
  unfold OpW at *
  rw [semAt_congr ops hp h] at hh
  generalize hres : (o.semAt r (rd n s')).run P w = res at *
  cases res with
  | ok m w' =>
    cases m <;> simp only at hh ⊢
    case value v => exact hk _ _ hh
    case skip => exact hk _ _ hh
    case enter f args => exact Calls.mono hh (fun e w'' he => by cases e <;> first | exact hk _ _ he | exact hx _ _ he | exact he)
    case round => exact RoundIn.mono hh (fun e w'' he => by cases e <;> first | exact hk _ _ he | exact hx _ _ he | exact he)
    case defer d => exact hkd _ _ _ hh
  | halt x w' => cases x <;> simp only at hh ⊢ <;> first | exact hx _ _ hh | exact hh


/-! ### The theorem -/
section
variable {ops : Array Oper} {H E T : List Nat} {K : St → World → Prop} {X : List PanicEntry → St → World → Prop} {C C2 : World → Prop}

def Look (ops : Array Oper) (i t : Nat) : Prop := ∃ o : Oper, ops[i]? = some o ∧ t ∈ o.looksAt ops

structure RegFacts (ops : Array Oper) (H E T : List Nat) : Prop where
  lt : ∀ i ∈ H ++ T, i < ops.size
  cover : ∀ i, i < ops.size → i ∈ H ∨ i ∈ T
  plain : ∀ (i : Nat) (o : Oper), ops[i]? = some o → plainOp o.op = true
  back : ∀ (i : Nat) (o : Oper), ops[i]? = some o → ∀ e ∈ o.after, Region.binds .any e = true → e.on < i
  dist : ∀ i j d, i ≠ j → dstOf ops i = some d → dstOf ops j ≠ some d
  data : ∀ l1 i l2, H ++ T = l1 ++ i :: l2 → i ∉ l1 ∧ ∀ t j, Look ops i t → dstOf ops j = some t → j ∈ l1 ∧ edge ops i j = true
  tail : ∀ l1 a b l2, T = l1 ++ a :: b :: l2 → anc ops ops.size b a = true
  head : ∀ h ∈ H, ∀ t l, T = t :: l → ((∃ o : Oper, ops[h]? = some o ∧ isPur o.op = true) ∨ E.contains h = true) ∨ anc ops ops.size t h = true

theorem dstOf_lt {j d : Nat} (h : dstOf ops j = some d) : j < ops.size := by
  unfold dstOf at h
  cases ho : ops[j]? with
  | none => rw [ho] at h; cases h
  | some o => exact (Array.getElem?_eq_some_iff.1 ho).1

theorem headsOk_split : ∀ (l1 : List Nat) (done : List Nat) (i : Nat) (l2 : List Nat), headsOk ops done (l1 ++ i :: l2) = true → dataOk ops (l1.reverse ++ done) i = true ∧ i ∉ l1.reverse ++ done
  | [], done, i, l2, h => by
    simp only [List.nil_append, headsOk, Bool.and_eq_true, Bool.not_eq_true'] at h
    exact ⟨h.1.1, by simpa using h.1.2⟩
  | a :: l1, done, i, l2, h => by
    simp only [List.cons_append, headsOk, Bool.and_eq_true] at h
    have := headsOk_split l1 (a :: done) i l2 h.2
    simpa using this

theorem tailOk_split : ∀ (l1 : List Nat) (a b : Nat) (l2 : List Nat), tailOk ops (l1 ++ a :: b :: l2) = true → anc ops ops.size b a = true
  | [], a, b, l2, h => by
    simp only [List.nil_append, tailOk, Bool.and_eq_true] at h
    exact h.1
  | [x], a, b, l2, h => by
    simp only [List.cons_append, List.nil_append, tailOk, Bool.and_eq_true] at h
    exact h.2.1
  | x :: y :: l1, a, b, l2, h => by
    simp only [List.cons_append, tailOk, Bool.and_eq_true] at h
    exact tailOk_split (y :: l1) a b l2 h.2

theorem regFacts (h : regOk ops H E T = true) : RegFacts ops H E T := by
  simp only [regOk, Bool.and_eq_true, List.all_eq_true, List.mem_range] at h
  obtain ⟨⟨⟨⟨h1, h2⟩, h3⟩, h4⟩, h5⟩ := h
  have hlt : ∀ i ∈ H ++ T, i < ops.size := fun i hi => by
    rcases List.mem_append.1 hi with hi | hi
    · have := h4 i hi
      simp only [headOk, Bool.and_eq_true] at this
      exact Nat.le_of_ble_eq_true this.1
    · exact Nat.le_of_ble_eq_true (h5 i hi)
  have hop : ∀ i o, ops[i]? = some o → opOk ops i = true := fun i o ho => (h3 i (Array.getElem?_eq_some_iff.1 ho).1).2
  refine ⟨hlt, fun i hi => ?_, fun i o ho => ?_, fun i o ho e he hb => ?_, fun i j d hij hi hj => ?_, fun l1 i l2 he => ?_, fun l1 a b l2 he => ?_, fun h hh t l he => ?_⟩
  · have := (h3 i hi).1
    simpa using this
  · have := hop i o ho
    simp only [opOk, ho, Option.map_some, Option.getD_some, Bool.and_eq_true] at this
    exact this.1.1
  · have := hop i o ho
    simp only [opOk, ho, Option.map_some, Option.getD_some, Bool.and_eq_true, Array.all_eq_true_iff_forall_mem] at this
    have h6 := this.1.2 e he
    simp only [hb, Bool.not_true, Bool.false_or] at h6
    exact Nat.le_of_ble_eq_true h6
  · have hil := dstOf_lt hi
    have hjl := dstOf_lt hj
    have := (h3 i hil).2
    simp only [opOk, Bool.and_eq_true, List.all_eq_true, List.mem_range] at this
    have h6 := this.2 j hjl
    simp [hi, hj, hij] at h6
  · rw [he] at h1
    obtain ⟨h6, h7⟩ := headsOk_split l1 [] i l2 h1
    simp only [List.append_nil] at h6 h7
    refine ⟨by simpa using h7, fun t j ⟨o, ho, ht⟩ hj => ?_⟩
    simp only [dataOk, ho, Option.map_some, Option.getD_some, List.all_eq_true, List.mem_range] at h6
    have h8 := h6 t ht j (dstOf_lt hj)
    simp only [hj, bne_self_eq_false, Bool.false_or, Bool.and_eq_true] at h8
    exact ⟨by simpa using h8.1, h8.2⟩
  · rw [he] at h2
    exact tailOk_split l1 a b l2 h2
  · have h6 := h4 h hh
    simp only [headOk, he, Bool.and_eq_true, Bool.or_eq_true] at h6
    rcases h6.2 with (h7 | h7) | h7
    · left; left
      cases ho : ops[h]? with
      | none => rw [ho] at h7; cases h7
      | some o => rw [ho] at h7; exact ⟨o, rfl, by simpa using h7⟩
    · exact .inl (.inr h7)
    · exact .inr h7

def FactAt (P : Program) (r : Option Nat) (n : Nat) (ops : Array Oper) (E : List Nat) (C C2 : World → Prop) (sT : St) (i : Nat) : Prop :=
  ∃ o, ops[i]? = some o ∧ ((Region.wanted o (yieldedE ops n sT) = true ∧ ∃ v, (if isPur o.op then Pur P r n o sT v else if E.contains i then LdY P r n C2 o sT v else Yld P r n C o sT v) ∧ ∀ d, o.dst = some d → sT.t d = v) ∨
    (Region.wanted o (yieldedE ops n sT) = false ∧ ∀ d, o.dst = some d → sT.t d = undef))

theorem put_t {s : St} {d : Option Nat} {v : Value} {t : Nat} (h : d ≠ some t) : (s.put d v).t t = s.t t := by
  cases d with
  | none => rfl
  | some k => rw [put_some, St.set_t, if_neg (fun e => h (by rw [e]))]

theorem put_d (s : St) (d : Option Nat) (v : Value) : (s.put d v).d = s.d := by cases d <;> rfl

theorem opsQ_facts (F : RegFacts ops H E T) {k : St → Prop} : ∀ (l l1 : List Nat), H = l1 ++ l → ∀ s, OpsQ P r n ops E C C2 k l s →
    ∃ sT, k sT ∧ (∀ t, (∀ i ∈ l, dstOf ops i ≠ some t) → sT.t t = s.t t) ∧ sT.d = s.d ∧ ∀ i ∈ l, FactAt P r n ops E C C2 sT i
  | [], l1, _, s, h => ⟨s, h, fun _ _ => rfl, rfl, fun _ h => nomatch h⟩
  | i :: l, l1, hl, s, h => by
    simp only [OpsQ] at h
    have hsplit : H ++ T = l1 ++ i :: (l ++ T) := by rw [hl]; simp
    obtain ⟨hni, hdata⟩ := F.data l1 i (l ++ T) hsplit
    cases ho : ops[i]? with
    | none => rw [ho] at h; exact h.elim
    | some o =>
      simp only [ho] at h
      -- later heads do not write what i looks at, nor its own slot
      have hlater : ∀ j ∈ l, j ∉ l1 ∧ j ≠ i := fun j hj => by
        obtain ⟨m1, m2, rfl⟩ := List.append_of_mem hj
        have := (F.data (l1 ++ i :: m1) j (m2 ++ T) (by rw [hl]; simp)).1
        simp at this
        exact ⟨this.1, this.2.1⟩
      have hlook : ∀ t ∈ o.looksAt ops, (∀ j ∈ l, dstOf ops j ≠ some t) ∧ o.dst ≠ some t := fun t ht => by
        refine ⟨fun j hj hd => (hlater j hj).1 (hdata t j ⟨o, ho, ht⟩ hd).1, fun hd => ?_⟩
        have : dstOf ops i = some t := by simp [dstOf, ho, hd]
        exact hni (hdata t i ⟨o, ho, ht⟩ this).1
      have step : ∀ v, OpsQ P r n ops E C C2 k l (s.put o.dst v) → ∃ sT, k sT ∧ (∀ t, (∀ j ∈ i :: l, dstOf ops j ≠ some t) → sT.t t = s.t t) ∧ sT.d = s.d ∧ (∀ j ∈ l, FactAt P r n ops E C C2 sT j) ∧
          (∀ t ∈ o.looksAt ops, s.t t = sT.t t) ∧ (∀ d, o.dst = some d → sT.t d = v) := fun v hv => by
        obtain ⟨sT, h1, h2, h3, h4⟩ := opsQ_facts F l (l1 ++ [i]) (by rw [hl]; simp) _ hv
        refine ⟨sT, h1, fun t ht => ?_, by rw [h3, put_d], h4, fun t ht => ?_, fun d hd => ?_⟩
        · rw [h2 t (fun j hj => ht j (List.mem_cons_of_mem _ hj)), put_t]
          intro hd
          exact ht i List.mem_cons_self (by simp [dstOf, ho, hd])
        · rw [h2 t (hlook t ht).1, put_t (hlook t ht).2]
        · rw [h2 d (fun j hj => F.dist i j d (fun e => (hlater j hj).2 e.symm) (by simp [dstOf, ho, hd])), hd, put_some, St.set_t, if_pos rfl]
      by_cases hw : Region.wanted o (yieldedE ops n s) = true
      · rw [if_pos hw] at h
        obtain ⟨v, hv, hrest⟩ := h
        obtain ⟨sT, h1, h2, h3, h4, h5, h6⟩ := step v hrest
        refine ⟨sT, h1, h2, h3, fun j hj => ?_⟩
        rcases List.mem_cons.1 hj with rfl | hj
        · refine ⟨o, ho, .inl ⟨by rw [← wanted_congr ops h5]; exact hw, v, ?_, h6⟩⟩
          have he := semAt_congr (r := r) (n := n) ops (F.plain _ o ho) h5
          split
          · rename_i hp; rw [if_pos hp] at hv; unfold Pur at *; rw [← he]; exact hv
          · rename_i hp; rw [if_neg hp] at hv
            split
            · rename_i hp2; rw [if_pos hp2] at hv; unfold LdY at *; rw [← he]; exact hv
            · rename_i hp2; rw [if_neg hp2] at hv; unfold Yld at *; rw [← he]; exact hv
        · exact h4 j hj
      · rw [if_neg hw] at h
        obtain ⟨sT, h1, h2, h3, h4, h5, h6⟩ := step undef h
        refine ⟨sT, h1, h2, h3, fun j hj => ?_⟩
        rcases List.mem_cons.1 hj with rfl | hj
        · exact ⟨o, ho, .inr ⟨by rw [← wanted_congr ops h5]; simpa using hw, h6⟩⟩
        · exact h4 j hj

open Classical in
noncomputable def fill (ops : Array Oper) (H : List Nat) (sT s : St) : St := ⟨fun t => if ∃ j ∈ H, dstOf ops j = some t then sT.t t else s.t t, s.d⟩

structure Inv (P : Program) (r : Option Nat) (n : Nat) (ops : Array Oper) (H T : List Nat) (K : St → World → Prop) (X : List PanicEntry → St → World → Prop) (C C2 : World → Prop) (sT : St) (listed : Array Bool) (s : St) (w : World) : Prop where
  sz : listed.size = ops.size
  dc : ∀ i o, listed.getD i false = true → ops[i]? = some o → ∀ e ∈ o.after, Region.binds .any e = true → listed.getD e.on false = true
  hb : ∀ j ∈ H, listed.getD j false = true → ∀ d, dstOf ops j = some d → s.t d = sT.t d
  hc : ∀ t, (∀ j, dstOf ops j ≠ some t) → s.t t = sT.t t
  ht : ∃ T1 T2, T = T1 ++ T2 ∧ (∀ j ∈ T1, listed.getD j false = true) ∧ (∀ j ∈ T2, listed.getD j false = false) ∧
    ((T1 = [] ∧ C w ∧ fill ops H sT s = sT) ∨ (T1 ≠ [] ∧ C2 w ∧ OpsC P r n ops C2 K X T2 (fill ops H sT s) w))

theorem anc_listed {listed : Array Bool} (dc : ∀ i o, listed.getD i false = true → ops[i]? = some o → ∀ e ∈ o.after, Region.binds .any e = true → listed.getD e.on false = true) : ∀ (f i j : Nat), anc ops f i j = true →
    (∀ o, ops[i]? = some o → ∀ e ∈ o.after, Region.binds .any e = true → listed.getD e.on false = true) → listed.getD j false = true
  | 0, _, _, h, _ => by simp [anc] at h
  | f + 1, i, j, h, hi => by
    simp only [anc] at h
    cases ho : ops[i]? with
    | none => rw [ho] at h; cases h
    | some o =>
      simp only [ho, Option.map_some, Option.getD_some, Array.any_eq_true, Bool.and_eq_true, Bool.or_eq_true, beq_iff_eq] at h
      obtain ⟨q, hq, hb, h⟩ := h
      have hl := hi o ho (o.after[q]) (Array.getElem_mem hq) hb
      rcases h with h | h
      · rw [← h]; exact hl
      · exact anc_listed dc f _ j h (fun o' ho' e he hb' => dc _ o' hl ho' e he hb')

theorem edge_on {i j : Nat} {o : Oper} (h : edge ops i j = true) (ho : ops[i]? = some o) : ∃ e ∈ o.after, Region.binds .any e = true ∧ e.on = j := by
  simp only [edge, ho, Option.map_some, Option.getD_some, Array.any_eq_true, Bool.and_eq_true, beq_iff_eq] at h
  obtain ⟨q, hq, hb, h⟩ := h
  exact ⟨o.after[q], Array.getElem_mem hq, hb, h⟩

theorem filter_lt {α : Type} (p q : α → Bool) (a : α) (hpq : ∀ x, q x = true → p x = true) (ha : p a = true) (hq : q a = false) : ∀ (l : List α), a ∈ l → (l.filter q).length < (l.filter p).length
  | [], h => nomatch h
  | x :: l, h => by
    have hle : (l.filter q).length ≤ (l.filter p).length := by
      clear h
      induction l with
      | nil => simp
      | cons y l ih =>
        by_cases h1 : q y = true
        · simp [List.filter_cons, h1, hpq y h1, ih]
        · by_cases h2 : p y = true
          · simp [List.filter_cons, h1, h2]; omega
          · simp [List.filter_cons, h1, h2, ih]
    rcases List.mem_cons.1 h with rfl | h
    · simp [List.filter_cons, ha, hq]; omega
    · have := filter_lt p q a hpq ha hq l h
      by_cases h1 : q x = true
      · simp [List.filter_cons, h1, hpq x h1, this]
      · by_cases h2 : p x = true
        · simp [List.filter_cons, h1, h2]; omega
        · simp [List.filter_cons, h1, h2, this]

def unl (ops : Array Oper) (listed : Array Bool) : Nat := ((List.range ops.size).filter fun i => !listed.getD i false).length

theorem getD_flip {listed : Array Bool} {i : Nat} (hi : i < listed.size) : listed.getD i true = listed.getD i false := by
  simp [Array.getD, hi]

theorem done_all (F : RegFacts ops H E T) {listed : Array Bool} (hsz : listed.size = ops.size) (h : Region.ready .any ops listed = []) : ∀ i, i < ops.size → listed.getD i false = true := by
  intro i
  induction i using Nat.strongRecOn with
  | _ i ih =>
    intro hi
    by_cases hl : listed.getD i false = true
    · exact hl
    · exfalso
      have : i ∈ Region.ready .any ops listed := by
        rw [mem_ready]
        refine ⟨by rw [getD_flip (by omega)]; simpa using hl, ops[i], by simp [hi], fun e he hb => ?_⟩
        have h1 := F.back i ops[i] (by simp [hi]) e he hb
        exact ih e.on h1 (by omega)
      rw [h] at this
      cases this

theorem fill_self (F : RegFacts ops H E T) {sT s : St} (h : ∀ j ∈ H, ∀ d, dstOf ops j = some d → s.t d = sT.t d) : fill ops H sT s = s := by
  refine St.ext (fun t => ?_) rfl
  · simp only [fill]
    split
    · rename_i hx
      obtain ⟨j, hj, hd⟩ := hx
      exact (h j hj t hd).symm
    · rfl

theorem fill_t {sT s : St} {t : Nat} (h : ∀ j ∈ H, dstOf ops j = some t → s.t t = sT.t t) : (fill ops H sT s).t t = s.t t := by
  simp only [fill]
  split
  · rename_i hx
    obtain ⟨j, hj, hd⟩ := hx
    exact (h j hj hd).symm
  · rfl

theorem fill_put_head {sT s : St} {d : Option Nat} {v : Value} (h : ∀ t, d = some t → ∃ j ∈ H, dstOf ops j = some t) : fill ops H sT (s.put d v) = fill ops H sT s := by
  refine St.ext (fun t => ?_) ?_
  · simp only [fill]
    split
    · rfl
    · rename_i hx
      exact put_t fun e => hx (h t e)
  · simp only [fill]; exact put_d s d v

theorem fill_put_tail {sT s : St} {d : Option Nat} {v : Value} (h : ∀ t, d = some t → ¬ ∃ j ∈ H, dstOf ops j = some t) : (fill ops H sT s).put d v = fill ops H sT (s.put d v) := by
  cases d with
  | none => rfl
  | some k =>
    refine St.ext (fun t => ?_) rfl
    · rw [put_some, St.set_t]
      simp only [fill]
      by_cases hk : t = k
      · subst hk
        rw [if_pos rfl, if_neg (h t rfl), put_some, St.set_t, if_pos rfl]
      · rw [if_neg hk]
        split
        · rfl
        · rw [put_some, St.set_t, if_neg hk]

theorem inv_any (F : RegFacts ops H E T) (hX : ∀ c s s' w, X c s w → X c s' w) {sT : St} (hfact : ∀ i ∈ H, FactAt P r n ops E C C2 sT i) (hCC : ∀ w, C w → C2 w) (hT : ∀ w, C w → OpsC P r n ops C2 K X T sT w) : ∀ (f : Nat) (listed : Array Bool) (s : St) (w : World),
    unl ops listed ≤ f → Inv P r n ops H T K X C C2 sT listed s w → AnyO P r n ops K X f listed s w := by
  have hend : ∀ (listed : Array Bool) (s : St) (w : World), (∀ i, i < ops.size → listed.getD i false = true) → Inv P r n ops H T K X C C2 sT listed s w → K s w := by
    intro listed s w hall hI
    obtain ⟨T1, T2, hTe, h1, h2, h3⟩ := hI.ht
    have hT2 : T2 = [] := by
      cases T2 with
      | nil => rfl
      | cons j l =>
        have hj : j < ops.size := F.lt j (by rw [hTe]; simp)
        have := h2 j List.mem_cons_self
        rw [hall j hj] at this
        cases this
    subst hT2
    rw [List.append_nil] at hTe
    subst hTe
    have hfs : fill ops H sT s = s := fill_self F fun j hj d hd => hI.hb j hj (hall j (F.lt j (List.mem_append_left _ hj))) d hd
    rcases h3 with ⟨rfl, hC, he⟩ | ⟨_, _, h3⟩
    · have := hT w hC
      rw [← he, hfs] at this
      exact this
    · rw [hfs] at h3
      exact h3
  intro f
  induction f with
  | zero =>
    intro listed s w hu hI
    have hall : ∀ i, i < ops.size → listed.getD i false = true := fun i hi => by
      by_cases hl : listed.getD i false = true
      · exact hl
      · exfalso
        have : i ∈ (List.range ops.size).filter fun i => !listed.getD i false := by
          rw [List.mem_filter]; exact ⟨List.mem_range.2 hi, by simpa using hl⟩
        have := List.length_pos_of_mem this
        unfold unl at hu
        omega
    refine ⟨?_, hend listed s w hall hI⟩
    cases hr : Region.ready .any ops listed with
    | nil => rfl
    | cons i l =>
      have : i ∈ Region.ready .any ops listed := by rw [hr]; exact List.mem_cons_self
      rw [mem_ready] at this
      obtain ⟨h0, o, ho, -⟩ := this
      have hi : i < ops.size := (Array.getElem?_eq_some_iff.1 ho).1
      have h1 := hall i hi
      rw [getD_flip (by rw [hI.sz]; exact hi)] at h0
      rw [h0] at h1
      cases h1
  | succ f ih =>
    intro listed s w hu hI
    refine ⟨fun hr => hend listed s w (done_all F hI.sz hr) hI, fun i hir => ?_⟩
    rw [mem_ready] at hir
    obtain ⟨h0, o, ho, hpre⟩ := hir
    have hi : i < ops.size := (Array.getElem?_eq_some_iff.1 ho).1
    have hil : i < listed.size := by rw [hI.sz]; exact hi
    rw [getD_flip hil] at h0
    have hset : ∀ j, (listed.setIfInBounds i true).getD j false = if j = i then true else listed.getD j false := fun j => by
      by_cases hj : j = i
      · subst hj; simp [Array.getD, hil]
      · rw [if_neg hj, getD_set_ne false (Ne.symm hj)]
    have hpre' : ∀ o', ops[i]? = some o' → ∀ e ∈ o'.after, Region.binds .any e = true → listed.getD e.on false = true := fun o' ho' => by
      rw [ho] at ho'; cases ho'; exact hpre
    have hu' : unl ops (listed.setIfInBounds i true) ≤ f := by
      have := filter_lt (fun j => !listed.getD j false) (fun j => !(listed.setIfInBounds i true).getD j false) i (fun x hx => by
        simp only [hset] at hx
        by_cases hxi : x = i
        · subst hxi; simp at hx
        · simpa [hxi] using hx) (by simp [h0]) (by simp [hset]) (List.range ops.size) (List.mem_range.2 hi)
      unfold unl at hu ⊢
      omega
    have hdc' : ∀ j o', (listed.setIfInBounds i true).getD j false = true → ops[j]? = some o' → ∀ e ∈ o'.after, Region.binds .any e = true → (listed.setIfInBounds i true).getD e.on false = true := fun j o' hj ho' e he hb => by
      rw [hset] at hj ⊢
      by_cases hji : j = i
      · subst hji
        have := hpre' o' ho' e he hb
        simp [this]
      · rw [if_neg hji] at hj
        have := hI.dc j o' hj ho' e he hb
        simp [this]
    have hdst : dstOf ops i = o.dst := by simp [dstOf, ho]
    obtain ⟨T1, T2, hTe, h1, h2, h3⟩ := hI.ht
    rcases F.cover i hi with hH | hTm
    · -- a head
      have hiT : i ∉ T := fun hm => by
        obtain ⟨m1, m2, rfl⟩ := List.append_of_mem hm
        have := (F.data (H ++ m1) i m2 (by simp)).1
        simp at this
        exact this.1 hH
      -- what it looks at is as at the end
      have hlook : ∀ t ∈ o.looksAt ops, sT.t t = s.t t := fun t ht => by
        by_cases hx : ∃ j, dstOf ops j = some t
        · obtain ⟨j, hj⟩ := hx
          obtain ⟨l1, l2, hl⟩ := List.append_of_mem (List.mem_append_left T hH)
          obtain ⟨hjl, hje⟩ := (F.data l1 i l2 hl).2 t j ⟨o, ho, ht⟩ hj
          obtain ⟨e, he, hb, hon⟩ := edge_on hje ho
          have hlj : listed.getD j false = true := by rw [← hon]; exact hpre e he hb
          -- j is a head
          have hjH : j ∈ H := by
            rcases F.cover j (dstOf_lt hj) with h | h
            · exact h
            · exfalso
              obtain ⟨m1, m2, hm⟩ := List.append_of_mem hH
              have hl' : H ++ T = m1 ++ i :: (m2 ++ T) := by rw [hm]; simp
              have hjm := ((F.data m1 i (m2 ++ T) hl').2 t j ⟨o, ho, ht⟩ hj).1
              obtain ⟨k1, k2, hk⟩ := List.append_of_mem h
              have := (F.data (H ++ k1) j k2 (by rw [hk]; simp)).1
              simp at this
              exact this.1 (by rw [hm]; simp [hjm])
          exact (hI.hb j hjH hlj t hj).symm
        · exact (hI.hc t fun j hj => hx ⟨j, hj⟩).symm
      obtain ⟨o', ho', hf⟩ := hfact i hH
      rw [ho] at ho'; cases ho'
      have hsem : o.semAt r (rd n sT) = o.semAt r (rd n s) := semAt_congr ops (F.plain i o ho) hlook
      have hwn : Region.wanted o (yieldedE ops n sT) = Region.wanted o (yieldedE ops n s) := wanted_congr ops hlook
      have hfillH : ∀ v, fill ops H sT (s.put o.dst v) = fill ops H sT s := fun v => fill_put_head fun t ht => ⟨i, hH, by rw [hdst, ht]⟩
      -- how it goes on
      have hnext : ∀ v w', (∀ d, o.dst = some d → sT.t d = v) → ((T1 = [] ∧ C w') ∨ (T1 ≠ [] ∧ w' = w)) → AnyO P r n ops K X f (listed.setIfInBounds i true) (s.put o.dst v) w' := fun v w' hv hw' => by
        refine ih _ _ _ hu' ⟨by simpa using hI.sz, hdc', fun j hj hl d hd => ?_, fun t ht => ?_, T1, T2, hTe, fun j hj => ?_, fun j hj => ?_, ?_⟩
        · rw [hset] at hl
          by_cases hji : j = i
          · subst hji
            rw [hdst] at hd
            rw [hd, put_some, St.set_t, if_pos rfl]
            exact (hv d hd).symm
          · rw [if_neg hji] at hl
            rw [put_t]
            · exact hI.hb j hj hl d hd
            · intro e
              exact F.dist j i d hji hd (by rw [hdst, e])
        · rw [put_t]
          · exact hI.hc t ht
          · intro e
            exact ht i (by rw [hdst, e])
        · rw [hset]; simp [h1 j hj]
        · rw [hset]
          have : j ≠ i := fun e => hiT (by rw [hTe, ← e]; simp [hj])
          simp [this, h2 j hj]
        · rw [hfillH]
          rcases h3 with ⟨ha, hb, hc⟩ | ⟨ha, hb⟩
          · rcases hw' with ⟨_, hC⟩ | ⟨h', _⟩
            · exact .inl ⟨ha, hC, hc⟩
            · exact absurd ha h'
          · rcases hw' with ⟨h', _⟩ | ⟨_, rfl⟩
            · exact absurd h' ha
            · exact .inr ⟨ha, hb⟩
      show Op1 P r n ops _ X i s w
      unfold Op1
      simp only [ho]
      rcases hf with ⟨hwt, v, hv, hdv⟩ | ⟨hwf, hdv⟩
      · rw [← hwn, if_pos hwt]
        unfold OpW
        rw [← hsem]
        rcases h3 with ⟨ha, hC, hc⟩ | ⟨ha, hb⟩
        · have hy : Yld P r n C o sT v := by
            split at hv
            · exact Pur.yld hv
            · split at hv
              · exact LdY.yld hCC hv
              · exact hv
          have hyw := hy w hC
          revert hyw
          cases (o.semAt r (rd n sT)).run P w with
          | ok m w' =>
            cases m <;> simp only
            case value u =>
              rintro ⟨rfl, hC'⟩
              exact hnext _ w' hdv (.inl ⟨ha, hC'⟩)
            case enter fn args =>
              intro hcall
              refine hcall.mono fun e w'' ⟨he, hC'⟩ => ?_
              subst he
              exact hnext _ w'' hdv (.inl ⟨ha, hC'⟩)
            all_goals exact fun h => h.elim
          | halt x w' => simp only; exact fun h => h.elim
        · -- behind the first of the tail: it is pure, or a late load
          have hp : isPur o.op = true ∨ E.contains i = true := by
            cases T1 with
            | nil => exact absurd rfl ha
            | cons t l =>
              rcases F.head i hH t (l ++ T2) (by rw [hTe]; simp) with (⟨o', ho', hp⟩ | hE) | hanc
              · rw [ho] at ho'; cases ho'; exact .inl hp
              · exact .inr hE
              · exfalso
                have hlt := h1 t List.mem_cons_self
                have := anc_listed hI.dc ops.size t i hanc (fun o' ho' e he hb => hI.dc t o' hlt ho' e he hb)
                rw [h0] at this
                cases this
          have hrun : (o.semAt r (rd n sT)).run P w = .ok (.value v) w := by
            by_cases hp1 : isPur o.op = true
            · rw [if_pos hp1] at hv; exact hv w
            · rw [if_neg hp1, if_pos (hp.resolve_left hp1)] at hv; exact hv w hb.1
          rw [hrun]
          exact hnext _ w hdv (.inr ⟨ha, rfl⟩)
      · rw [← hwn, if_neg (by simp [hwf])]
        refine hnext undef w hdv ?_
        rcases h3 with ⟨ha, hC, hc⟩ | ⟨ha, hb⟩
        · exact .inl ⟨ha, hC⟩
        · exact .inr ⟨ha, rfl⟩
    · -- one of the tail: it is the next
      have hiH : i ∉ H := fun hm => by
        obtain ⟨m1, m2, hk⟩ := List.append_of_mem hTm
        have := (F.data (H ++ m1) i m2 (by rw [hk]; simp)).1
        simp at this
        exact this.1 hm
      have hiT2 : i ∈ T2 := by
        rw [hTe] at hTm
        rcases List.mem_append.1 hTm with h | h
        · have := h1 i h; rw [h0] at this; cases this
        · exact h
      obtain ⟨T2', rfl⟩ : ∃ T2', T2 = i :: T2' := by
        obtain ⟨m1, m2, hm⟩ := List.append_of_mem hiT2
        rcases List.eq_nil_or_concat m1 with rfl | ⟨m1', a, rfl⟩
        · exact ⟨m2, hm⟩
        · exfalso
          have hanc := F.tail (T1 ++ m1') a i m2 (by rw [hTe, hm]; simp)
          have := anc_listed hI.dc ops.size i a hanc hpre'
          rw [h2 a (by rw [hm]; simp)] at this
          cases this
      have hC2w : C2 w := by
        rcases h3 with ⟨_, hC, _⟩ | ⟨_, hb, _⟩
        · exact hCC w hC
        · exact hb
      have hops : OpsC P r n ops C2 K X (i :: T2') (fill ops H sT s) w := by
        rcases h3 with ⟨rfl, hC, hc⟩ | ⟨_, _, hb⟩
        · rw [hc]
          have := hT w hC
          rw [hTe] at this
          exact this
        · exact hb
      simp only [OpsC, ho] at hops
      have hnd : ∀ t, o.dst = some t → ¬ ∃ j ∈ H, dstOf ops j = some t := fun t ht ⟨j, hj, hd⟩ => by
        have hne : j ≠ i := fun e => hiH (e ▸ hj)
        exact F.dist j i t hne hd (by rw [hdst, ht])
      have hlook : ∀ t ∈ o.looksAt ops, (fill ops H sT s).t t = s.t t := fun t ht => by
        refine fill_t fun j hj hd => ?_
        obtain ⟨l1, l2, hl⟩ := List.append_of_mem (List.mem_append_right H hTm)
        obtain ⟨_, hje⟩ := (F.data l1 i l2 hl).2 t j ⟨o, ho, ht⟩ hd
        obtain ⟨e, he, hb, hon⟩ := edge_on hje ho
        exact hI.hb j hj (by rw [← hon]; exact hpre e he hb) t hd
      have hnext : ∀ (s' : St) w', (∀ t, o.dst ≠ some t → s'.t t = s.t t) → C2 w' → OpsC P r n ops C2 K X T2' (fill ops H sT s') w' → AnyO P r n ops K X f (listed.setIfInBounds i true) s' w' := fun s' w' hs' hc2 ho' => by
        refine ih _ _ _ hu' ⟨by simpa using hI.sz, hdc', fun j hj hl d hd => ?_, fun t ht => ?_, T1 ++ [i], T2', by rw [hTe]; simp, fun j hj => ?_, fun j hj => ?_, .inr ⟨by simp, hc2, ho'⟩⟩
        · have hji : j ≠ i := fun e => hiH (e ▸ hj)
          rw [hset, if_neg hji] at hl
          rw [hs' d (fun e => hnd d e ⟨j, hj, hd⟩)]
          exact hI.hb j hj hl d hd
        · rw [hs' t (fun e => ht i (by rw [hdst, e]))]
          exact hI.hc t ht
        · rw [hset]
          rcases List.mem_append.1 hj with h | h
          · simp [h1 j h]
          · simp at h; simp [h]
        · rw [hset]
          have hne : j ≠ i := by
            rintro rfl
            obtain ⟨m1, m2, rfl⟩ := List.append_of_mem hj
            have := (F.data (H ++ T1 ++ j :: m1) j m2 (by rw [hTe]; simp)).1
            simp at this
          simp [hne, h2 j (List.mem_cons_of_mem _ hj)]
      show Op1 P r n ops _ X i s w
      unfold Op1
      simp only [ho]
      have hwn : Region.wanted o (yieldedE ops n (fill ops H sT s)) = Region.wanted o (yieldedE ops n s) := wanted_congr ops hlook
      rw [hwn] at hops
      split
      · rename_i hw
        rw [if_pos hw] at hops
        refine opW_transfer ops (F.plain i o ho) hlook (fun v w' h => ?_) (fun d v w' h => ?_) (fun c w' h => hX _ _ _ _ h) hops
        · refine hnext _ _ (fun t ht => put_t ht) h.1 ?_
          rw [← fill_put_tail hnd]; exact h.2
        · refine hnext _ _ (fun t ht => put_t ht) h.1 ?_
          have e1 : (({ fill ops H sT s with d := d :: (fill ops H sT s).d } : St)) = fill ops H sT { s with d := d :: s.d } := rfl
          rw [e1] at h
          rw [← fill_put_tail hnd]; exact h.2
      · rename_i hw
        rw [if_neg hw] at hops
        refine hnext _ _ (fun t ht => put_t ht) hC2w ?_
        rw [← fill_put_tail hnd]; exact hops

theorem w_draw {id : Nat} {Q : Exit → St → World → Prop} {s : St} {w : World} (H E T : List Nat) (C C2 : World → Prop) (hm : P.follows .mixedOrders = true) (hchk : regOk ops H E T = true) (hX : ∀ c s s' w, Q (.panic c) s w → Q (.panic c) s' w) (hC : ∀ w', To w w' w.heap → C w') (hCC : ∀ w', C w' → C2 w')
    (h : OpsQ P r n ops E C C2 (fun sT => ∀ w', C w' → OpsC P r n ops C2 (Q .normal) (fun c => Q (.panic c)) T sT w') H s) : W P r n (.region id ops true) Q s w := by
  have F := regFacts hchk
  refine w_region_any hm fun w' hw' => ?_
  obtain ⟨sT, h1, h2, h3, h4⟩ := opsQ_facts F H [] (by simp) s h
  refine inv_any F hX h4 hCC h1 ops.size _ s w' ?_ ⟨by simp, fun i o hi => ?_, fun j _ hl => ?_, fun t ht => (h2 t fun j _ => ht j).symm, [], T, rfl, (fun j hj => nomatch hj), (fun j hj => ?_), .inl ⟨rfl, hC w' hw', ?_⟩⟩
  · unfold unl
    exact Nat.le_trans (List.length_filter_le _ _) (by simp)
  · exfalso; simp [Array.getD] at hi
  · exfalso; simp [Array.getD] at hl
  · simp [Array.getD]
  · refine St.ext (fun t => ?_) ?_
    · simp only [fill]
      split
      · rfl
      · rename_i hx
        exact (h2 t fun j hj hd => hx ⟨j, hj, hd⟩).symm
    · simp only [fill]; exact h3.symm
end
end Go.Pd

/-
  The runs of single operations as equations (made by genrun.py off the lemmas 'o_..'); quiet steps in regions that draw their order.
-/
set_option linter.unusedSimpArgs false
set_option linter.unnecessarySimpa false
set_option maxRecDepth 10000
set_option linter.unusedVariables false
namespace Go.Pd
variable {P : Program} {r : Option Nat} {n : Nat}
section
variable {s : St} {w : World} {ty : TypeId} {p : String} {af : Array Edge} {g : Option (Nat × Bool)}
variable {bo : BinOp} {uo : UnOp} {x y : Operand} {a b : Int} {v : Value} {xt yt : TypeId} {kk : IntKind} {k d : Nat}

theorem r_mov {x : Operand} {v : Value}  (hx : rd n s x = v) : (Oper.semAt r (rd n s) ⟨some k, .move x, ty, p, af, g⟩).run P w = .ok (.value (v)) w := by
  subst hx
  rw [Oper.semAt_eq _ _ _ (fun c e => by cases e)]
  rfl

theorem r_asg {x : Operand} {v : Value}  (hx : rd n s x = v) : (Oper.semAt r (rd n s) ⟨some k, .assign x, ty, p, af, g⟩).run P w = .ok (.value (v)) w := by
  subst hx
  rw [Oper.semAt_eq _ _ _ (fun c e => by cases e)]
  rfl

theorem r_pick {c a b : Operand} {t : Bool} {v u : Value}  (hc : rd n s c = .bool t) (ha : rd n s a = v) (hb : rd n s b = u) : (Oper.semAt r (rd n s) ⟨some k, .pick c a b, ty, p, af, g⟩).run P w = .ok (.value ((bif t then v else u))) w := by
  subst ha hb
  rw [Oper.semAt_eq _ _ _ (fun c e => by cases e)]
  simp only [execOp, hc, asBool]
  cases t <;> rfl

theorem r_nilc {x : Operand} {a : Addr}  (hx : rd n s x = .pointer (some a)) : (Oper.semAt r (rd n s) ⟨some k, .nilCheck x, ty, p, af, g⟩).run P w = .ok (.value ((.pointer (some a)))) w := by
  rw [Oper.semAt_eq _ _ _ (fun c e => by cases e)]
  simp only [execOp, hx]
  rfl

theorem r_binI  (hx : rd n s x = .int kk a) (hy : rd n s y = .int kk b) (hv : binI bo kk a b = some v) : (Oper.semAt r (rd n s) ⟨some k, .binOp bo xt x y yt, ty, p, af, g⟩).run P w = .ok (.value (v)) w := by
  rw [Oper.semAt_eq _ _ _ (fun c e => by cases e)]
  cases bo <;> simp only [binI, Option.some.injEq, reduceCtorEq] at hv <;> subst hv <;> simp [execOp, hx, hy, eqGuard, binOp, Op.intArith, Op.intCmp, bind, Sem.bind, pure, Sem.run, BEq.beq, bne, decide_not]

theorem r_notb {b : Bool}  (hx : rd n s x = .bool b) : (Oper.semAt r (rd n s) ⟨some k, .unOp .not xt x, ty, p, af, g⟩).run P w = .ok (.value ((.bool (!b)))) w := by
  rw [Oper.semAt_eq _ _ _ (fun c e => by cases e)]
  simp only [execOp, hx, Op.unary]
  rfl

theorem r_load {t : TypeId} {x : Operand} {a : Addr} {v : Value}  (hA : aggT P t = some false) (hx : rd n s x = .pointer (some a)) (hc : w.cell? a = some v) : (Oper.semAt r (rd n s) ⟨some d, .load t x, ty, p, af, g⟩).run P w = .ok (.value (v)) w := by
  rw [Oper.semAt_eq _ _ _ (fun c e => by cases e)]
  simp only [execOp, Instr.loadAt, hx, Instr.sureAddr]
  rw [sem_bind (a := v) (w' := w)]
  · rfl
  · rw [sem_bind (a := a) (w' := w) rfl]; exact run_loadVar1 hA hc

theorem r_fa {st f off b o : Nat} {x : Operand}  (hx : rd n s x = .pointer (some ⟨b, o, none⟩)) (hf : fieldT P st f = some off) : (Oper.semAt r (rd n s) ⟨some d, .fieldAddr st x f, ty, p, af, g⟩).run P w = .ok (.value ((.pointer (some ⟨b, o + off, none⟩)))) w := by
  rw [Oper.semAt_eq _ _ _ (fun c e => by cases e)]
  simp only [execOp, hx]
  rw [sem_bind (run_fieldAt hf w)]
  rfl

theorem r_loadN {t : TypeId} {x : Operand} {b o : Nat} {vs : List Value}  (hA : aggT P t = some true) (hs : sizeT P t = some vs.length) (hx : rd n s x = .pointer (some ⟨b, o, none⟩)) (hc : Row w b o vs) : (Oper.semAt r (rd n s) ⟨some d, .load t x, ty, p, af, g⟩).run P w = .ok (.value ((.agg vs.toArray))) w := by
  rw [Oper.semAt_eq _ _ _ (fun c e => by cases e)]
  simp only [execOp, Instr.loadAt, hx, Instr.sureAddr]
  rw [sem_bind (a := .agg vs.toArray) (w' := w)]
  · rfl
  · rw [sem_bind (a := ⟨b, o, none⟩) (w' := w) rfl]; exact run_loadVarN hA hs hc

theorem r_indexAddr {t e k m c : Nat} {x ix : Operand} {kk : IntKind} {i : Int} {a : Option Addr} {b o : Nat} (j : Nat) (ha : a = some ⟨b, o, none⟩) (hj : j < m)  (hu : P.underlying t = some (.slice e)) (hs : sizeT P e = some k)
    (hx : rd n s x = .slice a m c) (hix : rd n s ix = .int kk i) (hi : i = (j : Int)) : (Oper.semAt r (rd n s) ⟨some d, .indexAddr t x ix, ty, p, af, g⟩).run P w = .ok (.value ((.pointer (some ⟨b, o + j * k, none⟩)))) w := by
  subst ha
  rw [Oper.semAt_eq _ _ _ (fun c e => by cases e)]
  simp only [execOp, hx, hix]
  rw [sem_bind (run_indexAt_slice hu hs hi hj w)]
  rfl

theorem r_eqs {t yt : Nat} {x y : Operand} {a b : List UInt8}  (hx : rd n s x = str a) (hy : rd n s y = str b) : (Oper.semAt r (rd n s) ⟨some d, .binOp .eql t x y yt, ty, p, af, g⟩).run P w = .ok (.value ((.bool (decide (a = b))))) w := by
  rw [Oper.semAt_eq _ _ _ (fun c e => by cases e)]
  simp only [execOp, hx, hy, str_eq, eqGuard, binOp, Op.stringOp, toList_mk]
  simp [bind, Sem.bind, pure, Sem.run]
  by_cases h : a = b <;> simp [h]

theorem r_nes {t yt : Nat} {x y : Operand} {a b : List UInt8}  (hx : rd n s x = str a) (hy : rd n s y = str b) : (Oper.semAt r (rd n s) ⟨some d, .binOp .neq t x y yt, ty, p, af, g⟩).run P w = .ok (.value ((.bool (decide (a ≠ b))))) w := by
  rw [Oper.semAt_eq _ _ _ (fun c e => by cases e)]
  simp only [execOp, hx, hy, str_eq, eqGuard, binOp, Op.stringOp, toList_mk]
  simp [bind, Sem.bind, pure, Sem.run]
  by_cases h : a = b <;> simp [h]

theorem r_lens {at_ : Array TypeId} {x : Operand} {a : List UInt8}  (hu : (at_[0]?).bind P.underlying = some .string) (hx : rd n s x = str a) : (Oper.semAt r (rd n s) ⟨some d, .call ⟨.builtin .len, #[x], at_⟩, ty, p, af, g⟩).run P w = .ok (.value ((.int .i64 (a.length : Int)))) w := by
  rw [Oper.semAt_eq _ _ _ (fun c e => by cases e)]
  cases ha : at_[0]? with
  | none => rw [ha] at hu; cases hu
  | some t =>
    rw [ha] at hu
    simp only [Option.bind_some] at hu
    simp only [execOp, resolve, List.map_toArray, List.map_cons, List.map_nil, hx, str_eq]
    rw [sem_bind (w' := w) rfl]
    simp only [invoke, builtin, Builtin.len_, ha]
    simp [sem_bind (run_underlying' hu w), size_mk, bind, Sem.bind, pure, Sem.run, underlying, program, hu, goInt]

theorem r_lenv {at_ : Array TypeId} {x : Operand} {e m c : Nat} {a : Option Addr}  (hu : (at_[0]?).bind P.underlying = some (.slice e)) (hx : rd n s x = .slice a m c) : (Oper.semAt r (rd n s) ⟨some d, .call ⟨.builtin .len, #[x], at_⟩, ty, p, af, g⟩).run P w = .ok (.value ((.int .i64 (m : Int)))) w := by
  rw [Oper.semAt_eq _ _ _ (fun c e => by cases e)]
  cases ha : at_[0]? with
  | none => rw [ha] at hu; cases hu
  | some t =>
    rw [ha] at hu
    simp only [Option.bind_some] at hu
    simp only [execOp, resolve, List.map_toArray, List.map_cons, List.map_nil, hx]
    rw [sem_bind (w' := w) rfl]
    simp only [invoke, builtin, Builtin.len_, ha]
    simp [bind, Sem.bind, pure, Sem.run, underlying, program, hu, goInt]

theorem r_build {t : TypeId} {parts : Array (Nat × Operand)} (cs : List Value)  (hb : buildC P t (parts.toList.map fun x => (x.1, rd n s x.2)) = some cs.toArray) : (Oper.semAt r (rd n s) ⟨some d, .build t parts, ty, p, af, g⟩).run P w = .ok (.value ((.agg cs.toArray))) w := by
  rw [Oper.semAt_eq _ _ _ (fun c e => by cases e)]
  simp only [execOp]
  have h2 : (parts.map fun (i, x) => (i, rd n s x)).toList = parts.toList.map fun x => (x.1, rd n s x.2) := by simp
  rw [sem_bind (run_build (P := P) (cs := cs.toArray) (by rw [h2]; exact hb) w)]
  rfl

theorem r_cat {t yt : Nat} {x y : Operand} {a b : List UInt8} (hlen : a.length + b.length ≤ 9223372036854775807)  (hx : rd n s x = str a) (hy : rd n s y = str b) : (Oper.semAt r (rd n s) ⟨some d, .binOp .add t x y yt, ty, p, af, g⟩).run P w = .ok (.value ((str (a ++ b)))) w := by
  rw [Oper.semAt_eq _ _ _ (fun c e => by cases e)]
  have h1 : ¬ (((⟨a.toArray⟩ : ByteArray).size + (⟨b.toArray⟩ : ByteArray).size : Nat) : Int) > IntKind.i64.max := by
    rw [size_mk, size_mk]
    simp only [IntKind.max, IntKind.signed, IntKind.bits]
    simp; omega
  simp only [execOp, hx, hy, str_eq, eqGuard, binOp, Op.stringOp, append_mk, h1, if_false]
  simp [bind, Sem.bind, pure, Sem.run]

theorem r_max {ats : Array TypeId} {x y : Operand} {kk : IntKind} {a b : Int}  (hx : rd n s x = .int kk a) (hy : rd n s y = .int kk b) : (Oper.semAt r (rd n s) ⟨some d, .call ⟨.builtin .max, #[x, y], ats⟩, ty, p, af, g⟩).run P w = .ok (.value ((.int kk (max a b)))) w := by
  rw [Oper.semAt_eq _ _ _ (fun c e => by cases e)]
  have e1 : (if b > a then b else a) = max a b := by
    by_cases h : b > a
    · rw [if_pos h]; omega
    · rw [if_neg h]; omega
  simp only [execOp, resolve, List.map_toArray, List.map_cons, List.map_nil, hx, hy]
  rw [sem_bind (w' := w) rfl]
  simp [invoke, builtin, Builtin.max_, Builtin.max2, bind, Sem.bind, pure, Sem.run, e1]

theorem r_min {ats : Array TypeId} {x y : Operand} {kk : IntKind} {a b : Int}  (hx : rd n s x = .int kk a) (hy : rd n s y = .int kk b) : (Oper.semAt r (rd n s) ⟨some d, .call ⟨.builtin .min, #[x, y], ats⟩, ty, p, af, g⟩).run P w = .ok (.value ((.int kk (min a b)))) w := by
  rw [Oper.semAt_eq _ _ _ (fun c e => by cases e)]
  have e1 : (if b < a then b else a) = min a b := by
    by_cases h : b < a
    · rw [if_pos h]; omega
    · rw [if_neg h]; omega
  simp only [execOp, resolve, List.map_toArray, List.map_cons, List.map_nil, hx, hy]
  rw [sem_bind (w' := w) rfl]
  simp [invoke, builtin, Builtin.min_, Builtin.min2, bind, Sem.bind, pure, Sem.run, e1]

theorem r_indexArr {t e k len : Nat} {x ix : Operand} {kk : IntKind} {i : Int} {b o : Nat} (j : Nat) (hj : j < len)  (hu : P.underlying t = some (.array len e)) (hs : sizeT P e = some k)
    (hx : rd n s x = .pointer (some ⟨b, o, none⟩)) (hix : rd n s ix = .int kk i) (hi : i = (j : Int)) : (Oper.semAt r (rd n s) ⟨some d, .indexAddr t x ix, ty, p, af, g⟩).run P w = .ok (.value ((.pointer (some ⟨b, o + j * k, none⟩)))) w := by
  rw [Oper.semAt_eq _ _ _ (fun c e => by cases e)]
  subst hi
  simp only [execOp, hx, hix]
  rw [sem_bind (a := .pointer (some ⟨b, o + j * k, none⟩)) (w' := w)]
  · rfl
  · unfold Instr.indexAt
    rw [sem_bind (a := (kk, (j : Int))) (w' := w) rfl]
    simp only
    rw [sem_bind (run_underlying' hu w)]
    simp only
    rw [sem_bind (a := (⟨b, o, none⟩ : Addr)) (w' := w) rfl]
    rw [sem_bind (a := (some (⟨b, o, none⟩ : Addr), len, e)) (w' := w) rfl]
    have h1 : (0 : Int) ≤ (j : Int) ∧ (j : Int) < (len : Int) := ⟨by omega, by omega⟩
    rw [sem_bind (a := TypeDesc.array len e) (w' := w) (run_underlying' hu w)]
    simp only [h1, and_self, if_true]
    rw [sem_bind (run_sizeT hs w)]
    simp [pure, Sem.run, add_mk]


theorem r_binN {c : Int} (hx : rd n s x = .int .i64 a) (hy : rd n s y = .int .i64 b) (hv : binN bo a b = some c) (hc : -9223372036854775808 ≤ c ∧ c ≤ 9223372036854775807) :
    (Oper.semAt r (rd n s) ⟨some k, .binOp bo xt x y yt, ty, p, af, g⟩).run P w = .ok (.value (.int .i64 c)) w := by
  refine r_binI hx hy ?_
  cases bo <;> simp only [binN, Option.some.injEq, reduceCtorEq] at hv <;> subst hv <;> simp only [binI] <;> rw [wrap_i64 hc]

theorem r_binC {c : Bool} (hx : rd n s x = .int kk a) (hy : rd n s y = .int kk b) (hv : binC bo a b = some c) :
    (Oper.semAt r (rd n s) ⟨some k, .binOp bo xt x y yt, ty, p, af, g⟩).run P w = .ok (.value (.bool c)) w := by
  refine r_binI hx hy ?_
  cases bo <;> simp only [binC, Option.some.injEq, reduceCtorEq] at hv <;> subst hv <;> rfl

theorem r_pick_t {c a b : Operand} {v : Value} (hc : rd n s c = .bool true) (ha : rd n s a = v) :
    (Oper.semAt r (rd n s) ⟨some k, .pick c a b, ty, p, af, g⟩).run P w = .ok (.value v) w := r_pick hc ha rfl
theorem r_pick_f {c a b : Operand} {v : Value} (hc : rd n s c = .bool false) (hb : rd n s b = v) :
    (Oper.semAt r (rd n s) ⟨some k, .pick c a b, ty, p, af, g⟩).run P w = .ok (.value v) w := r_pick hc rfl hb
end

section
variable {ops : Array Oper} {E : List Nat} {C C2 : World → Prop} {K : St → Prop} {i : Nat} {l : List Nat} {s : St} {k : Nat} {op : Op} {ty : TypeId} {p : String} {af : Array Edge} {g : Option (Nat × Bool)}

theorem q_nil (h : K s) : OpsQ P r n ops E C C2 K [] s := h

theorem q_pur {v : Value} (ho : ops[i]? = some ⟨some k, op, ty, p, af, g⟩) (hw : Region.wanted ⟨some k, op, ty, p, af, g⟩ (yieldedE ops n s) = true) (hp : isPur op = true) (h : ∀ w, (Oper.semAt r (rd n s) ⟨some k, op, ty, p, af, g⟩).run P w = .ok (.value v) w)
    (hk : OpsQ P r n ops E C C2 K l (s.set k v)) : OpsQ P r n ops E C C2 K (i :: l) s := by
  simp only [OpsQ, ho, hw, if_true, hp]
  exact ⟨v, h, hk⟩

theorem q_late {v : Value} (ho : ops[i]? = some ⟨some k, op, ty, p, af, g⟩) (hw : Region.wanted ⟨some k, op, ty, p, af, g⟩ (yieldedE ops n s) = true) (hp : isPur op = false) (hE : E.contains i = true) (h : ∀ w, C2 w → (Oper.semAt r (rd n s) ⟨some k, op, ty, p, af, g⟩).run P w = .ok (.value v) w)
    (hk : OpsQ P r n ops E C C2 K l (s.set k v)) : OpsQ P r n ops E C C2 K (i :: l) s := by
  simp only [OpsQ, ho, hw, if_true, hp, Bool.false_eq_true, if_false, hE]
  exact ⟨v, h, hk⟩

theorem q_val {v : Value} (ho : ops[i]? = some ⟨some k, op, ty, p, af, g⟩) (hw : Region.wanted ⟨some k, op, ty, p, af, g⟩ (yieldedE ops n s) = true) (hp : isPur op = false) (hE : E.contains i = false) (h : ∀ w, C w → (Oper.semAt r (rd n s) ⟨some k, op, ty, p, af, g⟩).run P w = .ok (.value v) w)
    (hk : OpsQ P r n ops E C C2 K l (s.set k v)) : OpsQ P r n ops E C C2 K (i :: l) s := by
  simp only [OpsQ, ho, hw, if_true, hp, Bool.false_eq_true, if_false, hE]
  exact ⟨v, fun w hC => by rw [h w hC]; exact ⟨rfl, hC⟩, hk⟩

theorem q_not (ho : ops[i]? = some ⟨some k, op, ty, p, af, g⟩) (hw : Region.wanted ⟨some k, op, ty, p, af, g⟩ (yieldedE ops n s) = false) (hk : OpsQ P r n ops E C C2 K l (s.set k undef)) : OpsQ P r n ops E C C2 K (i :: l) s := by
  simp only [OpsQ, ho, hw, Bool.false_eq_true, if_false]
  exact hk

theorem q_call {v : Value} {f : FuncId} {args : Array Value} {R : Value → World → Prop} (ho : ops[i]? = some ⟨some k, op, ty, p, af, g⟩) (hw : Region.wanted ⟨some k, op, ty, p, af, g⟩ (yieldedE ops n s) = true) (hp : isPur op = false) (hE : E.contains i = false)
    (h : ∀ w, (Oper.semAt r (rd n s) ⟨some k, op, ty, p, af, g⟩).run P w = .ok (.enter f args) w) (hc : ∀ w, C w → Calls P f args w (fun e w' => ∃ u, e = .returned u ∧ R u w')) (hR : ∀ w u w', C w → R u w' → u = v ∧ C w')
    (hk : OpsQ P r n ops E C C2 K l (s.set k v)) : OpsQ P r n ops E C C2 K (i :: l) s := by
  simp only [OpsQ, ho, hw, if_true, hp, Bool.false_eq_true, if_false, hE]
  refine ⟨v, fun w hC => ?_, hk⟩
  rw [h w]
  refine (hc w hC).mono ?_
  rintro e w' ⟨u, rfl, hu⟩
  obtain ⟨rfl, hC'⟩ := hR w u w' hC hu
  exact ⟨rfl, hC'⟩

theorem wk_draw {id : Nat} {ol : List Oper} {K : St → World → Prop} {Q : Ex} {s : St} {w : World} (H E T : List Nat) (C C2 : World → Prop) (hm : P.follows .mixedOrders = true) (hchk : regOk ol.toArray H E T = true) (hX : ∀ c s s' w, Q (.panic c) s w → Q (.panic c) s' w) (hC : ∀ w', To w w' w.heap → C w') (hCC : ∀ w', C w' → C2 w')
    (h : OpsQ P r n ol.toArray E C C2 (fun sT => ∀ w', C w' → OpsC P r n ol.toArray C2 K (fun c => Q (.panic c)) T sT w') H s) : WK P r n (.region id ol.toArray true) K Q s w := by
  unfold WK
  exact w_draw H E T C C2 hm hchk hX hC hCC h

theorem ops_tail {K : St → World → Prop} {X : List PanicEntry → St → World → Prop} {w : World} {o : Oper} (ho : ops[i]? = some o) (hw : Region.wanted o (yieldedE ops n s) = true) (h : OpsL P r n ops (fun s w => C2 w ∧ OpsC P r n ops C2 K X l s w) X [o] s w) : OpsC P r n ops C2 K X (i :: l) s w := by
  simp only [OpsC, ho, hw, if_true]
  simp only [OpsL, hw, if_true] at h
  exact h

theorem ops_nil {K : St → World → Prop} {X : List PanicEntry → St → World → Prop} {w : World} (h : K s w) : OpsC P r n ops C2 K X [] s w := h
end
end Go.Pd

/-
  Scopes; tests that part the walk; functions of the model's own; texts turned into bytes.
-/
set_option linter.unusedSimpArgs false
set_option linter.unnecessarySimpa false
set_option maxRecDepth 10000
set_option linter.unusedVariables false
namespace Go.Pd
variable {P : Program} {r : Option Nat} {n : Nat}

section
variable {b : Frame} {a : Act} {k : List Item} {cs : List Frame} {w : World}
theorem stepR_scope {c : Code} : step P (lone (b.atR a (.code (.scope c) :: k)) cs w) = .next (lone (b.atR a (.code c :: .inScope c :: k)) cs w) :=
  step_lone_go (by simp [stepG, stepG.exec, Frame.atR])
theorem stepR_inScope {c : Code} : step P (lone (b.atR a (.inScope c :: k)) cs w) = .next (lone (b.atR a k) cs w) :=
  step_lone_go (by simp [stepG, stepG.exec, Frame.atR])
end

def NoGoto (Q : Ex) : Ex
  | .goto _, _, _ => False
  | e, s, w => Q e s w

theorem w_scope {c : Code} {Q : Ex} {s : St} {w : World} (h : W P r n c (NoGoto Q) s w) : W P r n (.scope c) Q s w := by
  intro a hf b k cs hro hb hr
  have h0 : (lone (b.atR a (.code (.scope c) :: k)) cs w).fenced P (FR r) := fenced_calm hb hr rfl
  obtain ⟨e, a₁, w₁, ⟨s', hf', hq⟩, harr⟩ := h a hf b (.inScope c :: k) cs hro hb hr
  cases e with
  | normal => exact ⟨.normal, a₁, w₁, ⟨s', hf', hq⟩, .head h0 stepR_scope (StepsIn.trans harr (.one (fenced_calm hb hr rfl) stepR_inScope))⟩
  | exit id =>
    have hx : exitTo id (.inScope c :: k) = exitTo id k := by simp [exitTo]
    exact ⟨.exit id, a₁, w₁, ⟨s', hf', hq⟩, fun k' hk => .head h0 stepR_scope (harr.1 k' (by rw [hx]; exact hk)),
      fun hr' hk => let ⟨k₁, h1, h2⟩ := harr.2 hr' (by rw [hx]; exact hk); ⟨k₁, h1, .head h0 stepR_scope h2⟩⟩
  | goto l => exact hq.elim
  | ret => exact ⟨_, a₁, w₁, ⟨s', hf', hq⟩, .of_steps (.one h0 stepR_scope) harr⟩
  | panic ch => exact ⟨_, a₁, w₁, ⟨s', hf', hq⟩, .of_steps (.one h0 stepR_scope) harr⟩
  | outgrown => exact ⟨_, a₁, w₁, ⟨s', hf', hq⟩, .of_steps (b := b) (k := k) (cs := cs) (e := .outgrown) (.one h0 stepR_scope) harr⟩

theorem wk_scope {c : Code} {K : St → World → Prop} {Q : Ex} {s : St} {w : World} (h : WK P r n c K (NoGoto Q) s w) : WK P r n (.scope c) K Q s w := by
  unfold WK at *
  refine w_scope (w_mono h fun e s w h => ?_)
  cases e <;> exact h

section
variable {ops : Array Oper} {K : St → World → Prop} {X : List PanicEntry → St → World → Prop} {l : List Oper} {s : St} {w w0 : World} {M : Nat → Prop} {bl : List (Nat × Obj)}
variable {d : Nat} {ty : TypeId} {p : String} {af : Array Edge} {g : Option (Nat × Bool)} {k : Nat}

theorem o_binT {bo : BinOp} {xt yt : TypeId} {x y : Operand} {kk : IntKind} {a b : Int} {q : Prop} [Decidable q] (hw : Region.wanted ⟨some k, .binOp bo xt x y yt, ty, p, af, g⟩ (yieldedE ops n s) = true) (hx : rd n s x = .int kk a) (hy : rd n s y = .int kk b) (hv : binC bo a b = some (decide q))
    (ht : q → OpsL P r n ops K X l (s.set k (.bool true)) w) (hf : ¬ q → OpsL P r n ops K X l (s.set k (.bool false)) w) : OpsL P r n ops K X (⟨some k, .binOp bo xt x y yt, ty, p, af, g⟩ :: l) s w := by
  refine o_binC hw hx hy hv ?_
  by_cases h : q
  · rw [decide_eq_true h]; exact ht h
  · rw [decide_eq_false h]; exact hf h

theorem o_eqsT {t yt : Nat} {x y : Operand} {a b : List UInt8} (hw : Region.wanted ⟨some k, .binOp .eql t x y yt, ty, p, af, g⟩ (yieldedE ops n s) = true) (hx : rd n s x = str a) (hy : rd n s y = str b)
    (ht : a = b → OpsL P r n ops K X l (s.set k (.bool true)) w) (hf : a ≠ b → OpsL P r n ops K X l (s.set k (.bool false)) w) : OpsL P r n ops K X (⟨some k, .binOp .eql t x y yt, ty, p, af, g⟩ :: l) s w := by
  refine o_eqs hw hx hy ?_
  by_cases h : a = b
  · rw [decide_eq_true h]; exact ht h
  · rw [decide_eq_false h]; exact hf h

theorem o_nesT {t yt : Nat} {x y : Operand} {a b : List UInt8} (hw : Region.wanted ⟨some k, .binOp .neq t x y yt, ty, p, af, g⟩ (yieldedE ops n s) = true) (hx : rd n s x = str a) (hy : rd n s y = str b)
    (ht : a ≠ b → OpsL P r n ops K X l (s.set k (.bool true)) w) (hf : a = b → OpsL P r n ops K X l (s.set k (.bool false)) w) : OpsL P r n ops K X (⟨some k, .binOp .neq t x y yt, ty, p, af, g⟩ :: l) s w := by
  refine o_nes hw hx hy ?_
  by_cases h : a = b
  · rw [decide_eq_false (fun h' => h' h)]; exact hf h
  · rw [decide_eq_true h]; exact ht h

theorem o_extern {f : FuncId} {fn : Func} {e : Array Value → Sem Value} {xs : Array Operand} {ats : Array TypeId} {args : Array Value} {v : Value} (hw : Region.wanted ⟨some d, .call ⟨.value (.func f), xs, ats⟩, ty, p, af, g⟩ (yieldedE ops n s) = true)
    (hf : P.funcs[f]? = some fn) (hn : (fn.name == "runtime.NumGoroutine") = false) (hb : fn.body.isNone = true) (h1 : (Extern.findNext fn).isNone = true) (h2 : Extern.find fn = some e) (hargs : xs.toList.map (rd n s) = args.toList)
    (hr : (e args).run P w = .ok v w) (hk : OpsL P r n ops K X l (s.set d v) w) : OpsL P r n ops K X (⟨some d, .call ⟨.value (.func f), xs, ats⟩, ty, p, af, g⟩ :: l) s w := by
  refine o_val hw ?_ hk
  rw [Oper.semAt_eq _ _ _ (fun c e => by cases e)]
  have hargs' : xs.map (rd n s) = args := Array.ext' (by simpa using hargs)
  simp only [execOp, resolve, hargs', rd_func]
  rw [sem_bind (a := { target := .fn (.func f) #[], args := #[] ++ args }) (w' := w) rfl]
  simp only [invoke, Array.empty_append, Array.append_empty, callFunc]
  rw [sem_bind (a := P) (w' := w) rfl]
  have h3 : Extern.findNext fn = none := by simpa using h1
  simp only [hf, hn, Bool.false_eq_true, if_false, hb, if_true, h3, h2]
  rw [sem_bind (a := ()) (w' := w) rfl]
  rw [sem_bind hr]
  rfl

def u8 (c : UInt8) : Value := .int .u8 (c.toNat : Int)

theorem run_bytes {src dst e : TypeId} {bs : List UInt8} (h1 : P.underlying src = some .string) (h2 : P.underlying dst = some (.slice e)) (h3 : P.underlying e = some (.int .u8)) (w : World) :
    ∃ c w', (convert src dst (str bs)).run P w = .ok (.slice (some ⟨w.heap.size, 0, none⟩) bs.length c) w' ∧ bs.length ≤ c ∧ Ext w w' ∧ Row w' w.heap.size 0 (bs.map u8) := by
  let cap := bs.length + w.tape w.drawn (.appendCap bs.length 0 e) % (2 ^ 63 - bs.length)
  let el : Array Value := (bs.map u8).toArray
  let w1 : World := { w with drawn := w.drawn + 1 }
  let w2 : World := { w1 with heap := w1.heap.push (.cells (el ++ Array.replicate (cap - bs.length) (.int .u8 0)) e) }
  let w3 : World := w2.freeze { block := w.heap.size, off := (el ++ Array.replicate (cap - bs.length) (Value.int .u8 0)).size } 1
  have hother : ∀ b, b < w.heap.size → w3.heap[b]? = w.heap[b]? := fun b hb => by
    show (w2.heap.modify w.heap.size _)[b]? = _
    rw [Array.getElem?_modify, if_neg (by omega)]
    show (w.heap.push _)[b]? = _
    rw [Array.getElem?_push_lt hb, Array.getElem?_eq_getElem hb]
  have hself : ∃ fz, w3.heap[w.heap.size]? = some (.cells (el ++ Array.replicate (cap - bs.length) (.int .u8 0)) e fz) := by
    refine ⟨((el ++ Array.replicate (cap - bs.length) (Value.int .u8 0)).size, (el ++ Array.replicate (cap - bs.length) (Value.int .u8 0)).size + 1), ?_⟩
    show (w2.heap.modify w.heap.size _)[w.heap.size]? = _
    rw [Array.getElem?_modify, if_pos rfl]
    show Option.map _ (w.heap.push _)[w.heap.size]? = _
    rw [Array.getElem?_push_size]
    rfl
  refine ⟨cap, w3, ?_, Nat.le_add_right _ _, ⟨?_, fun b hb _ => hother b hb, rfl, rfl⟩, ?_⟩
  · unfold convert
    rw [sem_bind (run_underlying' h1 w), sem_bind (run_underlying' h2 w)]
    simp only [str_eq]
    rw [sem_bind (run_underlying' h3 w)]
    simp only [Conv.stringToBytes]
    rw [sem_bind (a := cap) (w' := w1)]
    · have e1 : ((⟨bs.toArray⟩ : ByteArray).data.map fun b => Value.int .u8 (b.toNat : Int)) = el := by
        simp [el]
        intro a _; rfl
      rw [e1, size_mk]
      rw [sem_bind (a := (⟨w.heap.size, 0, none⟩ : Addr)) (w' := w2) (by simp [newRow, newObj, bind, Sem.bind, Sem.run, pure, w2, w1]; rfl)]
      rw [sem_bind (a := ()) (w' := w3)]
      · rfl
      · unfold markStringish
        rw [sem_bind (a := some (e, (el ++ Array.replicate (cap - bs.length) (Value.int .u8 0)).size)) (w' := w2)]
        · simp only [freeze, Sem.run]; rfl
        · simp only [shape, Sem.run, World.shape?]
          have : w2.heap[w.heap.size]? = some (.cells (el ++ Array.replicate (cap - bs.length) (.int .u8 0)) e) := by
            show (w.heap.push _)[w.heap.size]? = _
            rw [Array.getElem?_push_size]
          simp only [this]
    · simp [choose, Sem.run, Question.forced, Question.cut, size_mk, cap, w1]
  · show w.heap.size ≤ (w2.heap.modify w.heap.size _).size
    simp [w2, w1]
  · obtain ⟨fz, hs⟩ := hself
    refine Row.of_block hs fun i v hi => ?_
    rw [Nat.zero_add, Array.getElem?_append]
    have hlt : i < (bs.map u8).length := (List.getElem?_eq_some_iff.1 hi).1
    rw [if_pos (by simpa [el] using hlt)]
    simpa [el] using hi

theorem o_bytes {src dst e : TypeId} {x : Operand} {bs : List UInt8} (hw : Region.wanted ⟨some d, .convert src dst x, ty, p, af, g⟩ (yieldedE ops n s) = true) (h1 : P.underlying src = some .string) (h2 : P.underlying dst = some (.slice e)) (h3 : P.underlying e = some (.int .u8)) (hx : rd n s x = str bs)
    (hk : ∀ b c w', Ext w w' → w.heap.size ≤ b → bs.length ≤ c → Row w' b 0 (bs.map u8) → OpsL P r n ops K X l (s.set d (.slice (some ⟨b, 0, none⟩) bs.length c)) w') : OpsL P r n ops K X (⟨some d, .convert src dst x, ty, p, af, g⟩ :: l) s w := by
  obtain ⟨c, w', hr, hc, he, hrow⟩ := run_bytes (bs := bs) h1 h2 h3 w
  refine o_val (w' := w') hw ?_ (hk _ c w' he (Nat.le_refl _) hc hrow)
  rw [Oper.semAt_eq _ _ _ (fun c e => by cases e)]
  simp only [execOp, hx]
  rw [sem_bind hr]
  rfl
end
end Go.Pd

/-
  Small steps more.
-/
set_option linter.unusedSimpArgs false
set_option linter.unnecessarySimpa false
set_option maxRecDepth 10000
set_option linter.unusedVariables false
namespace Go.Pd
variable {P : Program} {r : Option Nat} {n : Nat}
section
variable {ops : Array Oper} {K : St → World → Prop} {X : List PanicEntry → St → World → Prop} {l : List Oper} {s : St} {w w0 : World} {M : Nat → Prop} {bl : List (Nat × Obj)}
variable {d : Nat} {ty : TypeId} {p : String} {af : Array Edge} {g : Option (Nat × Bool)} {k : Nat}

theorem o_binK {bo : BinOp} {xt yt : TypeId} {x y : Operand} {kk : IntKind} {a b c : Int} (hw : Region.wanted ⟨some k, .binOp bo xt x y yt, ty, p, af, g⟩ (yieldedE ops n s) = true) (hx : rd n s x = .int kk a) (hy : rd n s y = .int kk b) (hv : binN bo a b = some c) (hc : kk.wrap c = c)
    (hk : OpsL P r n ops K X l (s.set k (.int kk c)) w) : OpsL P r n ops K X (⟨some k, .binOp bo xt x y yt, ty, p, af, g⟩ :: l) s w := by
  refine o_binI hw hx hy ?_ hk
  cases bo <;> simp only [binN, Option.some.injEq, reduceCtorEq] at hv <;> subst hv <;> simp only [binI] <;> rw [hc]

theorem o_rem {xt yt : TypeId} {x y : Operand} {kk : IntKind} {a b : Int} (hw : Region.wanted ⟨some k, .binOp .rem xt x y yt, ty, p, af, g⟩ (yieldedE ops n s) = true) (hx : rd n s x = .int kk a) (hy : rd n s y = .int kk b) (ha : 0 ≤ a) (hb : 0 < b)
    (hk : OpsL P r n ops K X l (s.set k (.int kk (a % b))) w) : OpsL P r n ops K X (⟨some k, .binOp .rem xt x y yt, ty, p, af, g⟩ :: l) s w := by
  refine o_val hw ?_ hk
  rw [Oper.semAt_eq _ _ _ (fun c e => by cases e)]
  have h1 : b ≠ 0 := by omega
  have h2 : a.tmod b = a % b := Int.tmod_eq_emod_of_nonneg ha
  simp [execOp, hx, hy, eqGuard, binOp, Op.intDiv, h1, h2, bind, Sem.bind, pure, Sem.run]

theorem o_quo {xt yt : TypeId} {x y : Operand} {kk : IntKind} {a b : Int} (hw : Region.wanted ⟨some k, .binOp .quo xt x y yt, ty, p, af, g⟩ (yieldedE ops n s) = true) (hx : rd n s x = .int kk a) (hy : rd n s y = .int kk b) (ha : 0 ≤ a) (hb : 0 < b) (hc : kk.wrap (a / b) = a / b)
    (hk : OpsL P r n ops K X l (s.set k (.int kk (a / b))) w) : OpsL P r n ops K X (⟨some k, .binOp .quo xt x y yt, ty, p, af, g⟩ :: l) s w := by
  refine o_val hw ?_ hk
  rw [Oper.semAt_eq _ _ _ (fun c e => by cases e)]
  have h1 : b ≠ 0 := by omega
  have h2 : a.tdiv b = a / b := Int.tdiv_eq_ediv_of_nonneg ha
  simp [execOp, hx, hy, eqGuard, binOp, Op.intDiv, h1, h2, hc, bind, Sem.bind, pure, Sem.run]

theorem run_equalNil {t : TypeId} {ms : Array (String × TypeId)} (hu : P.underlying t = some (.interface ms)) (w : World) : (Op.equal t .nilIface .nilIface).run P w = .ok true w := by
  have h9 : Op.equal t .nilIface .nilIface = Op.equalIn (9999 + 1) t .nilIface .nilIface := rfl
  rw [h9, Op.equalIn, sem_bind (run_underlying' hu w)]
  rfl

theorem o_neqnil {xt yt : TypeId} {x : Operand} {ms : Array (String × TypeId)} (hw : Region.wanted ⟨some k, .binOp .neq xt x (.const .nilIface) yt, ty, p, af, g⟩ (yieldedE ops n s) = true) (hu : P.underlying xt = some (.interface ms)) (hx : rd n s x = .nilIface)
    (hk : OpsL P r n ops K X l (s.set k (.bool false)) w) : OpsL P r n ops K X (⟨some k, .binOp .neq xt x (.const .nilIface) yt, ty, p, af, g⟩ :: l) s w := by
  refine o_val hw ?_ hk
  rw [Oper.semAt_eq _ _ _ (fun c e => by cases e)]
  have h1 : (eqGuard .neq xt x (.const .nilIface) .nilIface .nilIface).run P w = .ok () w := by
    cases x <;> rfl
  have h2 : (binOp .neq xt .nilIface .nilIface).run P w = .ok (.bool false) w := by
    show (do pure (Value.bool (!(← Op.equal xt .nilIface .nilIface))) : Sem Value).run P w = _
    rw [sem_bind (run_equalNil hu w)]
    rfl
  simp only [execOp, hx, rd_const]
  have h3 : (do eqGuard .neq xt x (.const .nilIface) .nilIface .nilIface; binOp .neq xt .nilIface .nilIface : Sem Value).run P w = .ok (.bool false) w := by
    rw [sem_bind h1]; exact h2
  rw [sem_bind h3]
  rfl
end
end Go.Pd

/-
  Blocks that a callee hands over; consumers of an iterator.
-/
set_option linter.unusedSimpArgs false
set_option linter.unnecessarySimpa false
set_option maxRecDepth 10000
set_option linter.unusedVariables false
namespace Go.Pd

theorem LH.join {w0 w w' : World} {M : Nat → Prop} {l l2 : List (Nat × Obj)} (h : LH w0 M w l) (h2 : LH w (fun _ => False) w' l2) : LH w0 M w' (l2 ++ l) := by
  have h1 := h.ext h2.done
  have hfr : ∀ p ∈ l2, w.heap.size ≤ p.1 := fun p hp => (h2.fresh p hp).elim id (fun h => h.elim)
  refine ⟨h1.upd, fun p hp => ?_, fun p hp => ?_, ?_⟩
  · rcases List.mem_append.1 hp with hp | hp
    · exact h2.own p hp
    · exact h1.own p hp
  · rcases List.mem_append.1 hp with hp | hp
    · exact .inl (Nat.le_trans h.upd.size (hfr p hp))
    · exact h.fresh p hp
  · rw [List.map_append, List.nodup_append]
    refine ⟨h2.nd, h.nd, fun a ha b hb hab => ?_⟩
    obtain ⟨p, hp, rfl⟩ := List.mem_map.1 ha
    obtain ⟨q, hq, rfl⟩ := List.mem_map.1 hb
    have h3 := hfr p hp
    have h4 := h.lt hq
    omega

theorem LH.rebase {w0 w w1 : World} {M : Nat → Prop} {l : List (Nat × Obj)} (h : LH w0 M w l) (e : Ext w w1) : LH w1 (fun b => b ∈ l.map (·.1)) w1 l :=
  ⟨.refl _ _, (h.ext e).own, fun p hp => .inr (List.mem_map_of_mem hp), h.nd⟩

theorem LH.back {w0 w w1 w2 : World} {M : Nat → Prop} {l l2 : List (Nat × Obj)} (h : LH w0 M w l) (e : Ext w w1) (h2 : LH w1 (fun b => b ∈ l.map (·.1)) w2 l2) : LH w0 M w2 l2 := by
  have h1 := h.ext e
  have hm : ∀ k, k ∈ l.map (·.1) → w0.heap.size ≤ k ∨ M k := fun k hk => by
    obtain ⟨p, hp, rfl⟩ := List.mem_map.1 hk
    exact h.fresh p hp
  refine ⟨h1.upd.trans h2.upd fun k hk hM => ?_, h2.own, fun p hp => ?_, h2.nd⟩
  · rcases hm k hM with h3 | h3
    · omega
    · exact h3
  · rcases h2.fresh p hp with h3 | h3
    · exact .inl (Nat.le_trans h1.upd.size h3)
    · exact hm _ h3

theorem LH.frame {w0 w w1 w2 : World} {M : Nat → Prop} {l l2 : List (Nat × Obj)} (h : LH w0 M w l) (h2 : LH w1 (fun b => b ∈ l.map (·.1)) w2 l2) : ∀ b, w.heap.size ≤ b → b < w1.heap.size → w2.heap[b]? = w1.heap[b]? := by
  intro b hb1 hb2
  refine h2.upd.same b hb2 fun hM => ?_
  obtain ⟨p, hp, rfl⟩ := List.mem_map.1 hM
  have := h.lt hp
  omega
end Go.Pd

namespace Go.Pd
theorem wk_intro {P : Program} {r : Option Nat} {n : Nat} {c : Code} {K : St → World → Prop} {Q : Exit → St → World → Prop} {s : St} {w : World} (h : WK P r n c K Q s w) : W P r n c (ThenQ K Q) s w := by
  unfold WK at h; exact h

theorem callV_round {P : Program} {n : Nat} {L : Nat} {rec : Loop} {args : Array Value} {s : St} {w : World} {R : Value → World → Prop} {ps : Array Tmp} {asn body : Code} (h : w.heap[L]? = some (.loop rec)) (hp : rec.params = ps) (ha : rec.assign = asn) (hbd : rec.body = body) (hs : args.size = ps.size) (hf : Fits n s ⟨rec.tmps, s.d⟩)
    (hb : WK P (some L) n asn (fun s1 w1 => ∃ rec1, w1.heap[L]? = some (.loop rec1) ∧ rec1.state = .ready ∧ ∀ w2, SetAt w1 w2 L (.loop { rec1 with state := .busy }) → WK P (some L) n body (RoundQ L R .normal) (RoundQ L R) s1 w2) (fun _ _ _ => False)
      ((ps.toList.zip args.toList).foldl (fun s (q : Nat × Value) => s.set q.1 q.2) (⟨s.t, []⟩ : St)) w) : CallV P (.func (.yield L) #[] #[]) args w R := by
  subst hp ha hbd
  refine callV_yield h hs hf ?_
  refine wk_intro (wk_mono hb ?_)
  rintro s1 w1 ⟨rec1, h1, h2, h3⟩
  exact ⟨rec1, h1, h2, fun w2 hw2 => wk_w (h3 w2 hw2)⟩
end Go.Pd

/-
  Steps that find their block by themselves.
-/
set_option linter.unusedSimpArgs false
set_option linter.unnecessarySimpa false
set_option maxRecDepth 10000
set_option linter.unusedVariables false
namespace Go.Pd
variable {P : Program} {r : Option Nat} {n : Nat}

inductive Put (b o : Nat) (v : Value) : List (Nat × Obj) → List (Nat × Obj) → Prop
  | here {vs vs' : List Value} {T : TypeId} {l : List (Nat × Obj)} : Nat.blt o vs.length = true → vs.set o v = vs' → Put b o v ((b, .cells vs.toArray T (0, 0)) :: l) ((b, .cells vs'.toArray T (0, 0)) :: l)
  | there {p : Nat × Obj} {l l' : List (Nat × Obj)} : Put b o v l l' → Put b o v (p :: l) (p :: l')

theorem Put.at {b o : Nat} {v : Value} {l l' : List (Nat × Obj)} (h : Put b o v l l') : ∃ (i : Nat) (vs : List Value) (T : TypeId), l[i]? = some (b, .cells vs.toArray T (0, 0)) ∧ o < vs.length ∧ l' = l.set i (b, .cells (vs.set o v).toArray T (0, 0)) := by
  induction h with
  | @here vs vs' T l h1 h2 => exact ⟨0, vs, T, rfl, Nat.le_of_ble_eq_true h1, by rw [h2]; rfl⟩
  | there _ ih =>
    obtain ⟨i, vs, T, h1, h2, h3⟩ := ih
    exact ⟨i + 1, vs, T, h1, h2, by rw [h3]; rfl⟩

def Cell1 (v : Value) : Prop := v.cells = #[v] ∧ v.oneCell' = true
theorem cell1_str (l : List UInt8) : Cell1 (str l) := by rw [str_eq]; exact ⟨rfl, rfl⟩
section
variable {ops : Array Oper} {K : St → World → Prop} {X : List PanicEntry → St → World → Prop} {l : List Oper} {s : St} {w w0 : World} {M : Nat → Prop} {bl bl' : List (Nat × Obj)}
variable {d : Nat} {ty : TypeId} {p : String} {af : Array Edge} {g : Option (Nat × Bool)}

theorem o_put1 {t : TypeId} {a x : Operand} {b o : Nat} {v : Value} (hl : LH w0 M w bl) (hw : Region.wanted ⟨none, .store t a x, ty, p, af, g⟩ (yieldedE ops n s) = true) (ha : rd n s a = .pointer (some ⟨b, o, none⟩))
    (hx : rd n s x = v) (hv : Cell1 v) (hs : sizeT P t = some 1) (hp : Put b o v bl bl')
    (hk : ∀ w', LH w0 M w' bl' → OpsL P r n ops K X l s w') : OpsL P r n ops K X (⟨none, .store t a x, ty, p, af, g⟩ :: l) s w := by
  obtain ⟨i, vs, T, h1, h2, rfl⟩ := hp.at
  refine o_store hl i [v] hw ha h1 (by rw [hx, hv.1]) hs (by simp; omega) (by simp [hv.2]) fun w' hl' => hk w' ?_
  exact hl'

theorem o_fa2 {st f off b o o' : Nat} {x : Operand} (hw : Region.wanted ⟨some d, .fieldAddr st x f, ty, p, af, g⟩ (yieldedE ops n s) = true) (hx : rd n s x = .pointer (some ⟨b, o, none⟩)) (hf : fieldT P st f = some off) (ho : o + off = o')
    (hk : OpsL P r n ops K X l (s.set d (.pointer (some ⟨b, o', none⟩))) w) : OpsL P r n ops K X (⟨some d, .fieldAddr st x f, ty, p, af, g⟩ :: l) s w := by
  subst ho
  exact o_fa hw hx hf hk

end

theorem r_fa2 {s : St} {w : World} {ty : TypeId} {p : String} {af : Array Edge} {g : Option (Nat × Bool)} {d st f off b o o' : Nat} {x : Operand} (hx : rd n s x = .pointer (some ⟨b, o, none⟩)) (hf : fieldT P st f = some off) (ho : o + off = o') : (Oper.semAt r (rd n s) ⟨some d, .fieldAddr st x f, ty, p, af, g⟩).run P w = .ok (.value (.pointer (some ⟨b, o', none⟩))) w := by
  subst ho
  exact r_fa hx hf

section
variable {ops : Array Oper} {E : List Nat} {C C2 : World → Prop} {K : St → Prop} {i : Nat} {l : List Nat} {s : St} {k : Nat} {ty : TypeId} {p : String} {af : Array Edge} {g : Option (Nat × Bool)}
theorem q_binT {bo : BinOp} {xt yt : TypeId} {x y : Operand} {kk : IntKind} {a b : Int} {q : Prop} [Decidable q] (ho : ops[i]? = some ⟨some k, .binOp bo xt x y yt, ty, p, af, g⟩) (hw : Region.wanted ⟨some k, .binOp bo xt x y yt, ty, p, af, g⟩ (yieldedE ops n s) = true) (hx : rd n s x = .int kk a) (hy : rd n s y = .int kk b) (hv : binC bo a b = some (decide q))
    (ht : q → OpsQ P r n ops E C C2 K l (s.set k (.bool true))) (hf : ¬ q → OpsQ P r n ops E C C2 K l (s.set k (.bool false))) : OpsQ P r n ops E C C2 K (i :: l) s := by
  refine q_pur ho hw rfl (fun _ => r_binC hx hy hv) ?_
  by_cases h : q
  · rw [decide_eq_true h]; exact ht h
  · rw [decide_eq_false h]; exact hf h
theorem q_nesT {xt yt : TypeId} {x y : Operand} {a b : List UInt8} (ho : ops[i]? = some ⟨some k, .binOp .neq xt x y yt, ty, p, af, g⟩) (hw : Region.wanted ⟨some k, .binOp .neq xt x y yt, ty, p, af, g⟩ (yieldedE ops n s) = true) (hx : rd n s x = str a) (hy : rd n s y = str b)
    (ht : a ≠ b → OpsQ P r n ops E C C2 K l (s.set k (.bool true))) (hf : a = b → OpsQ P r n ops E C C2 K l (s.set k (.bool false))) : OpsQ P r n ops E C C2 K (i :: l) s := by
  refine q_pur ho hw rfl (fun _ => r_nes hx hy) ?_
  by_cases h : a = b
  · rw [decide_eq_false (fun h' => h' h)]; exact hf h
  · rw [decide_eq_true h]; exact ht h
theorem q_eqsT {xt yt : TypeId} {x y : Operand} {a b : List UInt8} (ho : ops[i]? = some ⟨some k, .binOp .eql xt x y yt, ty, p, af, g⟩) (hw : Region.wanted ⟨some k, .binOp .eql xt x y yt, ty, p, af, g⟩ (yieldedE ops n s) = true) (hx : rd n s x = str a) (hy : rd n s y = str b)
    (ht : a = b → OpsQ P r n ops E C C2 K l (s.set k (.bool true))) (hf : a ≠ b → OpsQ P r n ops E C C2 K l (s.set k (.bool false))) : OpsQ P r n ops E C C2 K (i :: l) s := by
  refine q_pur ho hw rfl (fun _ => r_eqs hx hy) ?_
  by_cases h : a = b
  · rw [decide_eq_true h]; exact ht h
  · rw [decide_eq_false h]; exact hf h
end

theorem flat_get {α : Type} {f : α → List Value} {c : Nat} (hf : ∀ t, (f t).length = c) : ∀ (l : List α) (k j : Nat) (t : α), l[k]? = some t → j < c → (l.flatMap f)[k * c + j]? = (f t)[j]?
  | [], k, j, t, h, _ => by simp at h
  | a :: l, 0, j, t, h, hj => by
    simp at h; subst h
    rw [List.flatMap_cons, Nat.zero_mul, Nat.zero_add, List.getElem?_append_left (by rw [hf]; exact hj)]
  | a :: l, k + 1, j, t, h, hj => by
    have h1 := flat_get hf l k j t (by simpa using h) hj
    have h2 := hf a
    rw [List.flatMap_cons, List.getElem?_append_right (by rw [h2, Nat.add_mul]; omega), h2]
    rw [show (k + 1) * c + j - c = k * c + j by rw [Nat.add_mul]; omega]
    exact h1

theorem flat_length {α : Type} {f : α → List Value} {c : Nat} (hf : ∀ t, (f t).length = c) (l : List α) : (l.flatMap f).length = l.length * c := by
  induction l with
  | nil => simp
  | cons a l ih => rw [List.flatMap_cons, List.length_append, ih, hf, List.length_cons, Nat.add_mul]; omega

theorem Row.elem {α : Type} {f : α → List Value} {c : Nat} (hf : ∀ t, (f t).length = c) {w : World} {b o : Nat} {l : List α} (h : Row w b o (l.flatMap f)) {k : Nat} {t : α} (hk : l[k]? = some t) : Row w b (o + k * c) (f t) := by
  intro j v hj
  have hlt : j < c := by rw [← hf t]; exact (List.getElem?_eq_some_iff.1 hj).1
  have := h (k * c + j) v (by rw [flat_get hf l k j t hk hlt]; exact hj)
  rwa [← Nat.add_assoc] at this

theorem Row.ext {w w' : World} {b o : Nat} {vs : List Value} (h : Row w b o vs) (e : Ext w w') : Row w' b o vs := h.upd e (fun h => h)

end Go.Pd

/-
  '==' and '!=' on structs of plain cells.
-/
set_option linter.unusedSimpArgs false
set_option linter.unnecessarySimpa false
set_option maxRecDepth 10000
set_option linter.unusedVariables false
namespace Go.Pd
variable {P : Program} {r : Option Nat} {n : Nat}

inductive Sc (P : Program) (t : TypeId) : Value → Value → Bool → Prop
  | int {k k' : IntKind} {a b : Int} : P.underlying t = some (.int k') → Sc P t (.int k a) (.int k b) (decide (a = b))
  | bool {a b : Bool} : P.underlying t = some .bool → Sc P t (.bool a) (.bool b) (a == b)
  | str {a b : List UInt8} : P.underlying t = some .string → Sc P t (str a) (str b) (decide (a = b))

inductive ScF (P : Program) (xs ys : List Value) : List Field → Bool → Prop
  | nil : ScF P xs ys [] true
  | cons {f : Field} {fs : List Field} {a b : Value} {r r' : Bool} : (f.name == "_") = false → aggT P f.type = some false → xs[f.offset]? = some a → ys[f.offset]? = some b → Sc P f.type a b r → ScF P xs ys fs r' → ScF P xs ys (f :: fs) (r && r')

theorem ScF.cast {xs ys : List Value} {fs : List Field} {r : Bool} (h : ScF P xs ys fs r) (e : r = true) : ScF P xs ys fs true := e ▸ h

theorem run_part {t : TypeId} {xs : List Value} {o : Nat} {a : Value} (hA : aggT P t = some false) (h : xs[o]? = some a) (w : World) : (part t xs.toArray o).run P w = .ok a w := by
  unfold part
  rw [sem_bind (run_isAgg hA w)]
  have : xs.toArray[o]? = some a := by simpa using h
  simp [this, pure, Sem.run]

theorem Sc.run {t : TypeId} {a b : Value} {r : Bool} (h : Sc P t a b r) (d : Nat) (w : World) : (Op.equalIn (d + 1) t a b).run P w = .ok r w := by
  cases h with
  | int h => rw [run_equalIn_int w d t _ _ _ _ h]; congr 1
  | bool h => exact run_equalIn_bool' w d t _ _ h
  | str h =>
    rw [str_eq, str_eq, run_equalIn_string w d t _ _ h, toList_mk, toList_mk]
    rename_i a b
    congr 1
    by_cases hab : a = b <;> simp [hab]

theorem ScF.run {xs ys : List Value} {fs : List Field} {r : Bool} (h : ScF P xs ys fs r) (d : Nat) (w : World) : (Op.eqFields (d + 1) xs.toArray ys.toArray fs).run P w = .ok r w := by
  induction h with
  | nil => rfl
  | @cons f fs a b r r' h1 h2 h3 h4 h5 h6 ih =>
    unfold Op.eqFields
    have hne : f.name ≠ "_" := fun e => by rw [e] at h1; simp at h1
    simp only [hne, ne_eq, not_false_eq_true, if_true]
    rw [sem_bind (run_part h2 h3 w), sem_bind (run_part h2 h4 w), sem_bind (h5.run d w)]
    cases r with
    | true => simpa using ih
    | false => rfl

theorem run_eqS {bo : BinOp} {t : TypeId} {fs : List Field} {xs ys : List Value} {e : Bool} (hu : P.underlying t = some (.struct fs.toArray)) (hp : P.stoodInHeld t = false) (h : ScF P xs ys fs e) (w : World) :
    (Op.equal t (.agg xs.toArray) (.agg ys.toArray)).run P w = .ok e w := by
  have hf : P.fieldsOf t = fs.toArray := by simp [Program.fieldsOf, hu]
  have := run_equalIn_struct w 9999 t xs.toArray ys.toArray (by rw [hf]; exact hu) hp
  rw [hf] at this
  rw [show Op.equal t (.agg xs.toArray) (.agg ys.toArray) = Op.equalIn (9999 + 1) t (.agg xs.toArray) (.agg ys.toArray) from rfl, this]
  exact h.run 9998 w

section
variable {ops : Array Oper} {K : St → World → Prop} {X : List PanicEntry → St → World → Prop} {l : List Oper} {s : St} {w : World}
variable {d : Nat} {ty : TypeId} {p : String} {af : Array Edge} {g : Option (Nat × Bool)}

theorem r_neS {t yt : TypeId} {x y : Operand} {fs : List Field} {xs ys : List Value} {e : Bool} (hx : rd n s x = .agg xs.toArray) (hy : rd n s y = .agg ys.toArray) (hg : P.eqGuardType P.depth t = false) (hu : P.underlying t = some (.struct fs.toArray)) (hp : P.stoodInHeld t = false) (h : ScF P xs ys fs e) :
    (Oper.semAt r (rd n s) ⟨some d, .binOp .neq t x y yt, ty, p, af, g⟩).run P w = .ok (.value (.bool (!e))) w := by
  rw [Oper.semAt_eq _ _ _ (fun c e => by cases e)]
  simp only [execOp, hx, hy]
  have h1 := run_eqGuard_agg (P := P) w .neq t x y xs.toArray ys.toArray hg
  have h2 : (binOp .neq t (.agg xs.toArray) (.agg ys.toArray)).run P w = .ok (.bool (!e)) w := by
    show (do pure (Value.bool (!(← Op.equal t (.agg xs.toArray) (.agg ys.toArray)))) : Sem Value).run P w = _
    rw [sem_bind (run_eqS (bo := .neq) hu hp h w)]
    rfl
  have h3 : (do eqGuard .neq t x y (.agg xs.toArray) (.agg ys.toArray); binOp .neq t (.agg xs.toArray) (.agg ys.toArray) : Sem Value).run P w = .ok (.bool (!e)) w := by
    rw [sem_bind h1]; exact h2
  rw [sem_bind h3]
  rfl

theorem o_neS {t yt : TypeId} {x y : Operand} {fs : List Field} {xs ys : List Value} {e : Bool} (hw : Region.wanted ⟨some d, .binOp .neq t x y yt, ty, p, af, g⟩ (yieldedE ops n s) = true) (hx : rd n s x = .agg xs.toArray) (hy : rd n s y = .agg ys.toArray) (hg : P.eqGuardType P.depth t = false) (hu : P.underlying t = some (.struct fs.toArray)) (hp : P.stoodInHeld t = false) (h : ScF P xs ys fs e)
    (hk : OpsL P r n ops K X l (s.set d (.bool (!e))) w) : OpsL P r n ops K X (⟨some d, .binOp .neq t x y yt, ty, p, af, g⟩ :: l) s w := o_pur hw (fun w => r_neS hx hy hg hu hp h) hk

end
end Go.Pd

/-
  Slices cut on one side.
-/
set_option linter.unusedSimpArgs false
set_option linter.unnecessarySimpa false
set_option maxRecDepth 10000
set_option linter.unusedVariables false
namespace Go.Pd
variable {P : Program} {r : Option Nat} {n : Nat}

section
variable {ops : Array Oper} {K : St → World → Prop} {X : List PanicEntry → St → World → Prop} {l : List Oper} {s : St} {w : World}
variable {d : Nat} {ty : TypeId} {p : String} {af : Array Edge} {g : Option (Nat × Bool)}

end

end Go.Pd
