/-
  Regions that draw their order, by stages: some operations, in a forced order, turn the world; every other one answers alike in each stage in which it may come.
-/
import Derived.Test.YtjijmehighoonaaDoorRun
set_option linter.unusedSimpArgs false
set_option linter.unnecessarySimpa false
set_option maxRecDepth 10000
set_option linter.unusedVariables false
namespace Go.Pd
variable {P : Program} {r : Option Nat} {n : Nat}
section
variable {ops : Array Oper} {H T : List Nat} {K : St → World → Prop} {X : List PanicEntry → St → World → Prop} {C : Nat → World → Prop}

/-- May the operation come in this stage? -/
def stageIn (ops : Array Oper) (i k : Nat) : List Nat → Nat → Bool
  | [], _ => true
  | t :: l, j => (!(anc ops ops.size i t) || Nat.blt j k) && (!(anc ops ops.size t i) || Nat.ble k j) && (!(Nat.beq i t) || Nat.beq k j) && stageIn ops i k l (j + 1)

def stageOk (ops : Array Oper) (T : List Nat) (i k : Nat) : Bool := Nat.ble k T.length && stageIn ops i k T 0

def stagesOf (ops : Array Oper) (T : List Nat) (i : Nat) : List Nat := (List.range (T.length + 1)).filter fun k => stageOk ops T i k

def nextS (T : List Nat) (i k : Nat) : Nat := bif T.contains i then k + 1 else k

/-- In each stage in which it may come it yields v, and the stage behind. -/
def YldS (P : Program) (r : Option Nat) (n : Nat) (C : Nat → World → Prop) (ks : List Nat) (nx : Nat → Nat) (o : Oper) (s : St) (v : Value) : Prop := ∀ k ∈ ks, ∀ w, C k w →
  match (o.semAt r (rd n s)).run P w with
  | .ok (.value u) w' => u = v ∧ C (nx k) w'
  | .ok .skip w' => v = undef ∧ C (nx k) w'
  | .ok (.enter f args) w' => Calls P f args w' (fun e w'' => e = .returned v ∧ C (nx k) w'')
  | _ => False

def OpsS (P : Program) (r : Option Nat) (n : Nat) (ops : Array Oper) (T : List Nat) (C : Nat → World → Prop) (k : St → Prop) : List Nat → St → Prop
  | [], s => k s
  | i :: l, s =>
    match ops[i]? with
    | none => False
    | some o =>
      if Region.wanted o (yieldedE ops n s) then ∃ v, (if isPur o.op && !T.contains i then Pur P r n o s v else YldS P r n C (stagesOf ops T i) (nextS T i) o s v) ∧ OpsS P r n ops T C k l (s.put o.dst v)
      else (T.contains i = false ∨ ∀ k ∈ stagesOf ops T i, ∀ w, C k w → C (nextS T i k) w) ∧ OpsS P r n ops T C k l (s.put o.dst undef)

def FactS (P : Program) (r : Option Nat) (n : Nat) (ops : Array Oper) (T : List Nat) (C : Nat → World → Prop) (sT : St) (i : Nat) : Prop :=
  ∃ o, ops[i]? = some o ∧ ((Region.wanted o (yieldedE ops n sT) = true ∧ ∃ v, (if isPur o.op && !T.contains i then Pur P r n o sT v else YldS P r n C (stagesOf ops T i) (nextS T i) o sT v) ∧ ∀ d, o.dst = some d → sT.t d = v) ∨
    (Region.wanted o (yieldedE ops n sT) = false ∧ (T.contains i = false ∨ ∀ k ∈ stagesOf ops T i, ∀ w, C k w → C (nextS T i k) w) ∧ ∀ d, o.dst = some d → sT.t d = undef))

theorem opsS_facts (F : RegFacts ops H [] []) {k : St → Prop} : ∀ (l l1 : List Nat), H = l1 ++ l → ∀ s, OpsS P r n ops T C k l s →
    ∃ sT, k sT ∧ (∀ t, (∀ i ∈ l, dstOf ops i ≠ some t) → sT.t t = s.t t) ∧ sT.d = s.d ∧ ∀ i ∈ l, FactS P r n ops T C sT i
  | [], l1, _, s, h => ⟨s, h, fun _ _ => rfl, rfl, fun _ h => nomatch h⟩
  | i :: l, l1, hl, s, h => by
    simp only [OpsS] at h
    have hsplit : H ++ [] = l1 ++ i :: l := by rw [hl]; simp
    obtain ⟨hni, hdata⟩ := F.data l1 i l hsplit
    cases ho : ops[i]? with
    | none => rw [ho] at h; exact h.elim
    | some o =>
      simp only [ho] at h
      have hlater : ∀ j ∈ l, j ∉ l1 ∧ j ≠ i := fun j hj => by
        obtain ⟨m1, m2, rfl⟩ := List.append_of_mem hj
        have := (F.data (l1 ++ i :: m1) j m2 (by rw [hl]; simp)).1
        simp at this
        exact ⟨this.1, this.2.1⟩
      have hlook : ∀ t ∈ o.looksAt ops, (∀ j ∈ l, dstOf ops j ≠ some t) ∧ o.dst ≠ some t := fun t ht => by
        refine ⟨fun j hj hd => (hlater j hj).1 (hdata t j ⟨o, ho, ht⟩ hd).1, fun hd => ?_⟩
        have : dstOf ops i = some t := by simp [dstOf, ho, hd]
        exact hni (hdata t i ⟨o, ho, ht⟩ this).1
      have step : ∀ v, OpsS P r n ops T C k l (s.put o.dst v) → ∃ sT, k sT ∧ (∀ t, (∀ j ∈ i :: l, dstOf ops j ≠ some t) → sT.t t = s.t t) ∧ sT.d = s.d ∧ (∀ j ∈ l, FactS P r n ops T C sT j) ∧
          (∀ t ∈ o.looksAt ops, s.t t = sT.t t) ∧ (∀ d, o.dst = some d → sT.t d = v) := fun v hv => by
        obtain ⟨sT, h1, h2, h3, h4⟩ := opsS_facts F l (l1 ++ [i]) (by rw [hl]; simp) _ hv
        refine ⟨sT, h1, fun t ht => ?_, by rw [h3, put_d], h4, fun t ht => ?_, fun d hd => ?_⟩
        · rw [h2 t (fun j hj => ht j (List.mem_cons_of_mem _ hj)), put_t]
          intro hd
          exact ht i List.mem_cons_self (by simp [dstOf, ho, hd])
        · rw [h2 t (hlook t ht).1, put_t (hlook t ht).2]
        · rw [h2 d (fun j hj => F.dist i j d (fun e => (hlater j hj).2 e.symm) (by simp [dstOf, ho, hd])), hd, put_some, St.set_t, if_pos rfl]
      by_cases hw : Region.wanted o (yieldedE ops n s) = true
      · rw [if_pos hw] at h
        obtain ⟨v, hv, hrest⟩ := h
        obtain ⟨sT, h1, h2, h3, h4, h5, h6⟩ := step v hrest
        refine ⟨sT, h1, h2, h3, fun j hj => ?_⟩
        rcases List.mem_cons.1 hj with rfl | hj
        · refine ⟨o, ho, .inl ⟨by rw [← wanted_congr ops h5]; exact hw, v, ?_, h6⟩⟩
          have he := semAt_congr (r := r) (n := n) ops (F.plain _ o ho) h5
          split
          · rename_i hp; rw [if_pos hp] at hv; unfold Pur at *; rw [← he]; exact hv
          · rename_i hp; rw [if_neg hp] at hv; unfold YldS at *; rw [← he]; exact hv
        · exact h4 j hj
      · rw [if_neg hw] at h
        obtain ⟨hn, hrest⟩ := h
        obtain ⟨sT, h1, h2, h3, h4, h5, h6⟩ := step undef hrest
        refine ⟨sT, h1, h2, h3, fun j hj => ?_⟩
        rcases List.mem_cons.1 hj with rfl | hj
        · exact ⟨o, ho, .inr ⟨by rw [← wanted_congr ops h5]; simpa using hw, hn, h6⟩⟩
        · exact h4 j hj

structure InvS (ops : Array Oper) (H T : List Nat) (C : Nat → World → Prop) (sT : St) (listed : Array Bool) (s : St) (w : World) : Prop where
  sz : listed.size = ops.size
  dc : ∀ i o, listed.getD i false = true → ops[i]? = some o → ∀ e ∈ o.after, Region.binds .any e = true → listed.getD e.on false = true
  hb : ∀ j ∈ H, listed.getD j false = true → ∀ d, dstOf ops j = some d → s.t d = sT.t d
  hc : ∀ t, (∀ j, dstOf ops j ≠ some t) → s.t t = sT.t t
  hd : s.d = sT.d
  ht : ∃ k, k ≤ T.length ∧ C k w ∧ ∀ j t, T[j]? = some t → (listed.getD t false = true ↔ j < k)

theorem stageIn_of {i k : Nat} : ∀ (l : List Nat) (j0 : Nat), (∀ j t, l[j]? = some t → (anc ops ops.size i t = true → j0 + j < k) ∧ (anc ops ops.size t i = true → k ≤ j0 + j) ∧ (i = t → k = j0 + j)) → stageIn ops i k l j0 = true
  | [], _, _ => rfl
  | t :: l, j0, h => by
    obtain ⟨h1, h2, h3⟩ := h 0 t rfl
    have ih := stageIn_of l (j0 + 1) fun j t' ht => by
      have := h (j + 1) t' (by simpa using ht)
      rw [show j0 + 1 + j = j0 + (j + 1) by omega]
      exact this
    simp only [stageIn, ih, Bool.and_true, Bool.and_eq_true, Bool.or_eq_true, Bool.not_eq_true']
    refine ⟨⟨?_, ?_⟩, ?_⟩
    · cases ha : anc ops ops.size i t
      · exact .inl rfl
      · exact .inr (blt_t (h1 ha))
    · cases ha : anc ops ops.size t i
      · exact .inl rfl
      · exact .inr (Nat.ble_eq_true_of_le (h2 ha))
    · cases ha : Nat.beq i t
      · exact .inl rfl
      · refine .inr ?_
        have := h3 (Nat.eq_of_beq_eq_true ha)
        rw [this]
        simp

theorem tailOk_at : ∀ {T : List Nat} {j a b : Nat}, tailOk ops T = true → T[j]? = some a → T[j + 1]? = some b → anc ops ops.size b a = true := fun {T j a b} h ha hb => by
  obtain ⟨hj, rfl⟩ := List.getElem?_eq_some_iff.1 ha
  obtain ⟨hj1, rfl⟩ := List.getElem?_eq_some_iff.1 hb
  refine tailOk_split (T.take j) _ _ (T.drop (j + 2)) ?_
  have e : T.take j ++ T[j] :: T[j + 1] :: T.drop (j + 2) = T := by
    rw [← List.drop_eq_getElem_cons hj1, ← List.drop_eq_getElem_cons hj, List.take_append_drop]
  rw [e]
  exact h

theorem inv_stage (F : RegFacts ops H [] []) (htail : tailOk ops T = true) (hnd : T.Nodup) (hTH : ∀ t ∈ T, t ∈ H) {sT : St} (hfact : ∀ i ∈ H, FactS P r n ops T C sT i) (hK : ∀ w, C T.length w → K sT w) :
    ∀ (f : Nat) (listed : Array Bool) (s : St) (w : World), unl ops listed ≤ f → InvS ops H T C sT listed s w → AnyO P r n ops K X f listed s w := by
  have hend : ∀ (listed : Array Bool) (s : St) (w : World), (∀ i, i < ops.size → listed.getD i false = true) → InvS ops H T C sT listed s w → K s w := by
    intro listed s w hall hI
    obtain ⟨k, hk, hC, hj⟩ := hI.ht
    have hkl : k = T.length := by
      by_cases h : k < T.length
      · have h1 := hj k T[k] (by simp [h])
        have h2 := hall T[k] (F.lt _ (List.mem_append_left _ (hTH _ (List.getElem_mem h))))
        have := h1.1 h2
        omega
      · omega
    subst hkl
    have hs : s = sT := by
      refine St.ext (fun t => ?_) hI.hd
      by_cases hx : ∃ j, dstOf ops j = some t
      · obtain ⟨j, hd⟩ := hx
        have hlt := dstOf_lt hd
        have hjH : j ∈ H := (F.cover j hlt).elim id (fun h => nomatch h)
        exact hI.hb j hjH (hall j hlt) t hd
      · exact hI.hc t fun j hj => hx ⟨j, hj⟩
    rw [hs]
    exact hK w hC
  intro f
  induction f with
  | zero =>
    intro listed s w hu hI
    have hall : ∀ i, i < ops.size → listed.getD i false = true := fun i hi => by
      by_cases hl : listed.getD i false = true
      · exact hl
      · exfalso
        have : i ∈ (List.range ops.size).filter fun i => !listed.getD i false := by
          rw [List.mem_filter]; exact ⟨List.mem_range.2 hi, by simpa using hl⟩
        have := List.length_pos_of_mem this
        unfold unl at hu
        omega
    refine ⟨?_, hend listed s w hall hI⟩
    cases hr : Region.ready .any ops listed with
    | nil => rfl
    | cons i l =>
      have : i ∈ Region.ready .any ops listed := by rw [hr]; exact List.mem_cons_self
      rw [mem_ready] at this
      obtain ⟨h0, o, ho, -⟩ := this
      have hi : i < ops.size := (Array.getElem?_eq_some_iff.1 ho).1
      have h1 := hall i hi
      rw [getD_flip (by rw [hI.sz]; exact hi)] at h0
      rw [h0] at h1
      cases h1
  | succ f ih =>
    intro listed s w hu hI
    refine ⟨fun hr => hend listed s w (done_all F hI.sz hr) hI, fun i hir => ?_⟩
    rw [mem_ready] at hir
    obtain ⟨h0, o, ho, hpre⟩ := hir
    have hi : i < ops.size := (Array.getElem?_eq_some_iff.1 ho).1
    have hil : i < listed.size := by rw [hI.sz]; exact hi
    rw [getD_flip hil] at h0
    have hset : ∀ j, (listed.setIfInBounds i true).getD j false = if j = i then true else listed.getD j false := fun j => by
      by_cases hj : j = i
      · subst hj; simp [Array.getD, hil]
      · rw [if_neg hj, getD_set_ne false (Ne.symm hj)]
    have hpre' : ∀ o', ops[i]? = some o' → ∀ e ∈ o'.after, Region.binds .any e = true → listed.getD e.on false = true := fun o' ho' => by
      rw [ho] at ho'; cases ho'; exact hpre
    have hu' : unl ops (listed.setIfInBounds i true) ≤ f := by
      have := filter_lt (fun j => !listed.getD j false) (fun j => !(listed.setIfInBounds i true).getD j false) i (fun x hx => by
        simp only [hset] at hx
        by_cases hxi : x = i
        · subst hxi; simp at hx
        · simpa [hxi] using hx) (by simp [h0]) (by simp [hset]) (List.range ops.size) (List.mem_range.2 hi)
      unfold unl at hu ⊢
      omega
    have hdc' : ∀ j o', (listed.setIfInBounds i true).getD j false = true → ops[j]? = some o' → ∀ e ∈ o'.after, Region.binds .any e = true → (listed.setIfInBounds i true).getD e.on false = true := fun j o' hj ho' e he hb => by
      rw [hset] at hj ⊢
      by_cases hji : j = i
      · subst hji
        have := hpre' o' ho' e he hb
        simp [this]
      · rw [if_neg hji] at hj
        have := hI.dc j o' hj ho' e he hb
        simp [this]
    have hiH : i ∈ H := (F.cover i hi).elim id (fun h => nomatch h)
    have hdst : dstOf ops i = o.dst := by simp [dstOf, ho]
    have hlook : ∀ t ∈ o.looksAt ops, sT.t t = s.t t := fun t ht => by
      by_cases hx : ∃ j, dstOf ops j = some t
      · obtain ⟨j, hj⟩ := hx
        obtain ⟨l1, l2, hl⟩ := List.append_of_mem (List.mem_append_left [] hiH)
        obtain ⟨hjl, hje⟩ := (F.data l1 i l2 hl).2 t j ⟨o, ho, ht⟩ hj
        obtain ⟨e, he, hb, hon⟩ := edge_on hje ho
        have hlj : listed.getD j false = true := by rw [← hon]; exact hpre e he hb
        have hjH : j ∈ H := (F.cover j (dstOf_lt hj)).elim id (fun h => nomatch h)
        exact (hI.hb j hjH hlj t hj).symm
      · exact (hI.hc t fun j hj => hx ⟨j, hj⟩).symm
    obtain ⟨k, hk, hCk, hkj⟩ := hI.ht
    -- the stage is one in which it may come
    have hstage : k ∈ stagesOf ops T i := by
      unfold stagesOf
      rw [List.mem_filter]
      refine ⟨List.mem_range.2 (by omega), ?_⟩
      unfold stageOk
      rw [Bool.and_eq_true]
      refine ⟨Nat.ble_eq_true_of_le hk, stageIn_of T 0 fun j t ht => ⟨fun ha => ?_, fun ha => ?_, fun e => ?_⟩⟩
      · rw [Nat.zero_add]
        exact (hkj j t ht).1 (anc_listed hI.dc ops.size i t ha hpre')
      · rw [Nat.zero_add]
        refine Nat.le_of_not_lt fun hlt => ?_
        have hlt' := (hkj j t ht).2 hlt
        have := anc_listed hI.dc ops.size t i ha (fun o' ho' e he hb => hI.dc t o' hlt' ho' e he hb)
        rw [h0] at this
        cases this
      · subst e
        rw [Nat.zero_add]
        have h1 : ¬ j < k := fun hlt => by
          have := (hkj j i ht).2 hlt
          rw [h0] at this
          cases this
        cases j with
        | zero => omega
        | succ j =>
          have hjl : j < T.length := by have := (List.getElem?_eq_some_iff.1 ht).1; omega
          have ha := tailOk_at htail (j := j) (a := T[j]) (b := i) (by simp [hjl]) ht
          have := (hkj j T[j] (by simp [hjl])).1 (anc_listed hI.dc ops.size i T[j] ha hpre')
          omega
    have hnext : ∀ v w', (∀ d, o.dst = some d → sT.t d = v) → C (nextS T i k) w' → AnyO P r n ops K X f (listed.setIfInBounds i true) (s.put o.dst v) w' := fun v w' hv hw' => by
      refine ih _ _ _ hu' ⟨by simpa using hI.sz, hdc', fun j hj hl d hd => ?_, fun t ht => ?_, by rw [put_d, hI.hd], nextS T i k, ?_, hw', fun j t ht => ?_⟩
      · rw [hset] at hl
        by_cases hji : j = i
        · subst hji
          rw [hdst] at hd
          rw [hd, put_some, St.set_t, if_pos rfl]
          exact (hv d hd).symm
        · rw [if_neg hji] at hl
          rw [put_t]
          · exact hI.hb j hj hl d hd
          · intro e
            exact F.dist j i d hji hd (by rw [hdst, e])
      · rw [put_t]
        · exact hI.hc t ht
        · intro e
          exact ht i (by rw [hdst, e])
      · unfold nextS
        cases hc : T.contains i
        · exact hk
        · obtain ⟨j, hj, hij⟩ := List.mem_iff_getElem.1 (List.contains_iff_mem.1 hc)
          have h1 : k ∈ stagesOf ops T i := hstage
          have h2 : ¬ k = T.length := fun e => by
            have := (hkj j i (by simp [hj, hij])).2 (by omega)
            rw [h0] at this
            cases this
          show k + 1 ≤ T.length
          omega
      · rw [hset]
        by_cases hti : t = i
        · subst hti
          rw [if_pos rfl]
          have hc : T.contains t = true := List.contains_iff_mem.2 (List.mem_of_getElem? ht)
          unfold nextS
          rw [hc]
          have h1 : ¬ j < k := fun hlt => by
            have := (hkj j t ht).2 hlt
            rw [h0] at this
            cases this
          have hjk : j = k := by
            cases j with
            | zero => omega
            | succ j =>
              have hjl : j < T.length := by have := (List.getElem?_eq_some_iff.1 ht).1; omega
              have ha := tailOk_at htail (j := j) (a := T[j]) (b := t) (by simp [hjl]) ht
              have := (hkj j T[j] (by simp [hjl])).1 (anc_listed hI.dc ops.size t T[j] ha hpre')
              omega
          subst hjk
          exact ⟨fun _ => Nat.lt_succ_self _, fun _ => rfl⟩
        · rw [if_neg hti]
          unfold nextS
          cases hc : T.contains i
          · exact hkj j t ht
          · show _ ↔ j < k + 1
            constructor
            · intro h; have := (hkj j t ht).1 h; omega
            · intro h
              by_cases hjk : j < k
              · exact (hkj j t ht).2 hjk
              · exfalso
                have hjk : j = k := by omega
                subst hjk
                obtain ⟨j', hj', hij⟩ := List.mem_iff_getElem.1 (List.contains_iff_mem.1 hc)
                have h2 : ¬ j' < j := fun hlt => by
                  have := (hkj j' i (by simp [hj', hij])).2 hlt
                  rw [h0] at this
                  cases this
                have h3 : j' ≠ j := fun e => by
                  subst e
                  have : some t = some i := by rw [← ht]; simp [hj', hij]
                  cases this
                  exact hti rfl
                have hjl : j' - 1 < T.length := by omega
                have ha := tailOk_at htail (j := j' - 1) (a := T[j' - 1]) (b := i) (by simp [hjl]) (by rw [show j' - 1 + 1 = j' by omega]; simp [hj', hij])
                have := (hkj (j' - 1) T[j' - 1] (by simp [hjl])).1 (anc_listed hI.dc ops.size i _ ha hpre')
                omega
    obtain ⟨o', ho', hf⟩ := hfact i hiH
    rw [ho] at ho'; cases ho'
    have hsem : o.semAt r (rd n sT) = o.semAt r (rd n s) := semAt_congr ops (F.plain i o ho) hlook
    have hwn : Region.wanted o (yieldedE ops n sT) = Region.wanted o (yieldedE ops n s) := wanted_congr ops hlook
    show Op1 P r n ops _ X i s w
    unfold Op1
    simp only [ho]
    rcases hf with ⟨hwt, v, hv, hdv⟩ | ⟨hwf, hn, hdv⟩
    · rw [← hwn, if_pos hwt]
      unfold OpW
      rw [← hsem]
      by_cases hp : (isPur o.op && !T.contains i) = true
      · rw [if_pos hp] at hv
        rw [hv w]
        refine hnext v w hdv ?_
        simp only [Bool.and_eq_true, Bool.not_eq_true'] at hp
        unfold nextS
        rw [hp.2]
        exact hCk
      · rw [if_neg hp] at hv
        have hy := hv k hstage w hCk
        revert hy
        cases (o.semAt r (rd n sT)).run P w with
        | ok m w' =>
          cases m <;> simp only
          case value u =>
            rintro ⟨rfl, hC'⟩
            exact hnext _ w' hdv hC'
          case skip =>
            rintro ⟨rfl, hC'⟩
            exact hnext _ w' hdv hC'
          case enter fn args =>
            intro hcall
            refine hcall.mono fun e w'' ⟨he, hC'⟩ => ?_
            subst he
            exact hnext _ w'' hdv hC'
          all_goals exact fun h => h.elim
        | halt x w' => simp only; exact fun h => h.elim
    · rw [← hwn, if_neg (by simp [hwf])]
      refine hnext undef w hdv ?_
      rcases hn with hn | hn
      · unfold nextS; rw [hn]; exact hCk
      · exact hn k hstage w hCk

def stageChk (ops : Array Oper) (H T : List Nat) : Bool := regOk ops H [] [] && tailOk ops T && T.all (fun t => H.contains t) && T.Nodup

theorem wk_stage {id : Nat} {ol : List Oper} {K : St → World → Prop} {Q : Ex} {s : St} {w : World} (H T : List Nat) (C : Nat → World → Prop) (hm : P.follows .mixedOrders = true) (hchk : stageChk ol.toArray H T = true) (hC : ∀ w', To w w' w.heap → C 0 w')
    (h : OpsS P r n ol.toArray T C (fun sT => ∀ w', C T.length w' → K sT w') H s) : WK P r n (.region id ol.toArray true) K Q s w := by
  unfold WK
  unfold stageChk at hchk
  simp only [Bool.and_eq_true, decide_eq_true_eq] at hchk
  obtain ⟨⟨⟨h1, h2⟩, h3⟩, h4⟩ := hchk
  have F := regFacts h1
  refine w_region_any hm fun w' hw' => ?_
  obtain ⟨sT, g1, g2, g3, g4⟩ := opsS_facts F H [] (by simp) s h
  refine inv_stage F h2 h4 (fun t ht => by simpa using List.all_eq_true.1 h3 t ht) g4 g1 ol.toArray.size _ s w' ?_ ⟨by simp, fun i o hi => ?_, fun j _ hl => ?_, fun t ht => (g2 t fun j _ => ht j).symm, g3.symm, 0, Nat.zero_le _, hC w' hw', fun j t _ => ?_⟩
  · unfold unl
    exact Nat.le_trans (List.length_filter_le _ _) (by simp)
  · exfalso; simp [Array.getD] at hi
  · exfalso; simp [Array.getD] at hl
  · simp [Array.getD]
end

section
variable {ops : Array Oper} {T : List Nat} {C : Nat → World → Prop} {K : St → Prop} {i : Nat} {l : List Nat} {s : St} {k : Nat} {op : Op} {ty : TypeId} {p : String} {af : Array Edge} {g : Option (Nat × Bool)}

theorem s_nil (h : K s) : OpsS P r n ops T C K [] s := h

theorem s_pur {v : Value} (ho : ops[i]? = some ⟨some k, op, ty, p, af, g⟩) (hw : Region.wanted ⟨some k, op, ty, p, af, g⟩ (yieldedE ops n s) = true) (hp : (isPur op && !T.contains i) = true) (h : ∀ w, (Oper.semAt r (rd n s) ⟨some k, op, ty, p, af, g⟩).run P w = .ok (.value v) w)
    (hk : OpsS P r n ops T C K l (s.set k v)) : OpsS P r n ops T C K (i :: l) s := by
  simp only [OpsS, ho, hw, if_true, hp]
  exact ⟨v, h, hk⟩

/-- One that reads the world, alike in all stages. -/
theorem s_val {v : Value} (ho : ops[i]? = some ⟨some k, op, ty, p, af, g⟩) (hw : Region.wanted ⟨some k, op, ty, p, af, g⟩ (yieldedE ops n s) = true) (hp : (isPur op && !T.contains i) = false) (hT : T.contains i = false) (h : ∀ j ∈ stagesOf ops T i, ∀ w, C j w → (Oper.semAt r (rd n s) ⟨some k, op, ty, p, af, g⟩).run P w = .ok (.value v) w)
    (hk : OpsS P r n ops T C K l (s.set k v)) : OpsS P r n ops T C K (i :: l) s := by
  simp only [OpsS, ho, hw, if_true, hp, Bool.false_eq_true, if_false]
  refine ⟨v, fun j hj w hC => ?_, hk⟩
  rw [h j hj w hC]
  refine ⟨rfl, ?_⟩
  unfold nextS
  rw [hT]
  exact hC

theorem s_not (ho : ops[i]? = some ⟨some k, op, ty, p, af, g⟩) (hw : Region.wanted ⟨some k, op, ty, p, af, g⟩ (yieldedE ops n s) = false) (hT : T.contains i = false) (hk : OpsS P r n ops T C K l (s.set k undef)) : OpsS P r n ops T C K (i :: l) s := by
  simp only [OpsS, ho, hw, Bool.false_eq_true, if_false]
  exact ⟨.inl hT, hk⟩

/-- A call: quiet, or a step. -/
theorem s_call {v : Value} {f : FuncId} {args : Array Value} (ho : ops[i]? = some ⟨some k, op, ty, p, af, g⟩) (hw : Region.wanted ⟨some k, op, ty, p, af, g⟩ (yieldedE ops n s) = true) (hp : (isPur op && !T.contains i) = false)
    (h : ∀ w, (Oper.semAt r (rd n s) ⟨some k, op, ty, p, af, g⟩).run P w = .ok (.enter f args) w) (hc : ∀ j ∈ stagesOf ops T i, ∀ w, C j w → Calls P f args w (fun e w' => e = .returned v ∧ C (nextS T i j) w'))
    (hk : OpsS P r n ops T C K l (s.set k v)) : OpsS P r n ops T C K (i :: l) s := by
  simp only [OpsS, ho, hw, if_true, hp, Bool.false_eq_true, if_false]
  refine ⟨v, fun j hj w hC => ?_, hk⟩
  rw [h w]
  exact hc j hj w hC

/-- A call that may come in one stage alone. -/
theorem s_call1 {v : Value} {f : FuncId} {args : Array Value} (j0 j1 : Nat) (ho : ops[i]? = some ⟨some k, op, ty, p, af, g⟩) (hw : Region.wanted ⟨some k, op, ty, p, af, g⟩ (yieldedE ops n s) = true) (hp : (isPur op && !T.contains i) = false) (hst : stagesOf ops T i = [j0]) (hnx : nextS T i j0 = j1)
    (h : ∀ w, (Oper.semAt r (rd n s) ⟨some k, op, ty, p, af, g⟩).run P w = .ok (.enter f args) w) (hc : ∀ w, C j0 w → Calls P f args w (fun e w' => e = .returned v ∧ C j1 w'))
    (hk : OpsS P r n ops T C K l (s.set k v)) : OpsS P r n ops T C K (i :: l) s :=
  s_call ho hw hp h (fun j hj w hC => by
    rw [hst] at hj
    obtain rfl := List.mem_singleton.1 hj
    rw [hnx]
    exact hc w hC) hk

theorem r_neI {xt yt : TypeId} {x y : Operand} {d : Nat} {kk : IntKind} {a b : Int} {w : World} (hx : rd n s x = .int kk a) (hy : rd n s y = .int kk b) (h : a = b) :
    (Oper.semAt r (rd n s) ⟨some d, .binOp .neq xt x y yt, ty, p, af, g⟩).run P w = .ok (.value (.bool false)) w := by
  rw [r_binC (c := decide (a ≠ b)) hx hy rfl, decide_eq_false (by simpa using h)]
theorem r_eqI {xt yt : TypeId} {x y : Operand} {d : Nat} {kk : IntKind} {a b : Int} {w : World} (hx : rd n s x = .int kk a) (hy : rd n s y = .int kk b) (h : a = b) :
    (Oper.semAt r (rd n s) ⟨some d, .binOp .eql xt x y yt, ty, p, af, g⟩).run P w = .ok (.value (.bool true)) w := by
  rw [r_binC (c := decide (a = b)) hx hy rfl, decide_eq_true h]

/-- A step that yields nothing (a store, an update of a map). -/
theorem s_unit (ho : ops[i]? = some ⟨none, op, ty, p, af, g⟩) (hw : Region.wanted ⟨none, op, ty, p, af, g⟩ (yieldedE ops n s) = true) (hp : (isPur op && !T.contains i) = false)
    (h : ∀ j ∈ stagesOf ops T i, ∀ w, C j w → ∃ w', (Oper.semAt r (rd n s) ⟨none, op, ty, p, af, g⟩).run P w = .ok .skip w' ∧ C (nextS T i j) w')
    (hk : OpsS P r n ops T C K l s) : OpsS P r n ops T C K (i :: l) s := by
  simp only [OpsS, ho, hw, if_true, hp, Bool.false_eq_true, if_false]
  refine ⟨undef, fun j hj w hC => ?_, hk⟩
  obtain ⟨w', h1, h2⟩ := h j hj w hC
  rw [h1]
  exact ⟨rfl, h2⟩
end
end Go.Pd
