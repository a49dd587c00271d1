/-
  Regions that draw their order, with pure followers behind the tail.
-/
import Derived.Test.YtpmjolbnmoejdaaGreatDoorQLB
set_option linter.unusedSimpArgs false
set_option linter.unnecessarySimpa false
set_option maxRecDepth 10000
set_option linter.unusedVariables false
namespace Go.Pd
variable {P : Program} {r : Option Nat} {n : Nat}
section
variable {ops : Array Oper} {H E T B : List Nat} {K : St → World → Prop} {X : List PanicEntry → St → World → Prop} {C C2 : World → Prop}

def FactW (P : Program) (r : Option Nat) (n : Nat) (ops : Array Oper) (sT : St) (w : World) (i : Nat) : Prop :=
  ∃ o, ops[i]? = some o ∧ ((Region.wanted o (yieldedE ops n sT) = true ∧ ∃ v, (o.semAt r (rd n sT)).run P w = .ok (.value v) w ∧ ∀ d, o.dst = some d → sT.t d = v) ∨
    (Region.wanted o (yieldedE ops n sT) = false ∧ ∀ d, o.dst = some d → sT.t d = undef))

structure Inv2 (P : Program) (r : Option Nat) (n : Nat) (ops : Array Oper) (H : List Nat) (sT : St) (listed : Array Bool) (s : St) (w : World) : Prop where
  sz : listed.size = ops.size
  dc : ∀ i o, listed.getD i false = true → ops[i]? = some o → ∀ e ∈ o.after, Region.binds .any e = true → listed.getD e.on false = true
  hb : ∀ j ∈ H, listed.getD j false = true → ∀ d, dstOf ops j = some d → s.t d = sT.t d
  hc : ∀ t, (∀ j, dstOf ops j ≠ some t) → s.t t = sT.t t
  hd : s.d = sT.d
  fact : ∀ i ∈ H, listed.getD i false = false → FactW P r n ops sT w i

theorem inv_heads (F : RegFacts ops H E []) {sT : St} {w : World} (hK : K sT w) : ∀ (f : Nat) (listed : Array Bool) (s : St), unl ops listed ≤ f → Inv2 P r n ops H sT listed s w → AnyO P r n ops K X f listed s w := by
  have hend : ∀ (listed : Array Bool) (s : St), (∀ i, i < ops.size → listed.getD i false = true) → Inv2 P r n ops H sT listed s w → K s w := by
    intro listed s hall hI
    have : s = sT := by
      refine St.ext (fun t => ?_) hI.hd
      by_cases hx : ∃ j, dstOf ops j = some t
      · obtain ⟨j, hj⟩ := hx
        have hlt := dstOf_lt hj
        rcases F.cover j hlt with h | h
        · exact hI.hb j h (hall j hlt) t hj
        · cases h
      · exact hI.hc t fun j hj => hx ⟨j, hj⟩
    rw [this]; exact hK
  intro f
  induction f with
  | zero =>
    intro listed s hu hI
    have hall : ∀ i, i < ops.size → listed.getD i false = true := fun i hi => by
      by_cases hl : listed.getD i false = true
      · exact hl
      · exfalso
        have : i ∈ (List.range ops.size).filter fun i => !listed.getD i false := by
          rw [List.mem_filter]; exact ⟨List.mem_range.2 hi, by simpa using hl⟩
        have := List.length_pos_of_mem this
        unfold unl at hu
        omega
    refine ⟨?_, hend listed s hall hI⟩
    cases hr : Region.ready .any ops listed with
    | nil => rfl
    | cons i l =>
      have : i ∈ Region.ready .any ops listed := by rw [hr]; exact List.mem_cons_self
      rw [mem_ready] at this
      obtain ⟨h0, o, ho, -⟩ := this
      have hi : i < ops.size := (Array.getElem?_eq_some_iff.1 ho).1
      have h1 := hall i hi
      rw [getD_flip (by rw [hI.sz]; exact hi)] at h0
      rw [h0] at h1
      cases h1
  | succ f ih =>
    intro listed s hu hI
    refine ⟨fun hr => hend listed s (done_all F hI.sz hr) hI, fun i hir => ?_⟩
    rw [mem_ready] at hir
    obtain ⟨h0, o, ho, hpre⟩ := hir
    have hi : i < ops.size := (Array.getElem?_eq_some_iff.1 ho).1
    have hil : i < listed.size := by rw [hI.sz]; exact hi
    rw [getD_flip hil] at h0
    have hset : ∀ j, (listed.setIfInBounds i true).getD j false = if j = i then true else listed.getD j false := fun j => by
      by_cases hj : j = i
      · subst hj; simp [Array.getD, hil]
      · rw [if_neg hj, getD_set_ne false (Ne.symm hj)]
    have hpre' : ∀ o', ops[i]? = some o' → ∀ e ∈ o'.after, Region.binds .any e = true → listed.getD e.on false = true := fun o' ho' => by
      rw [ho] at ho'; cases ho'; exact hpre
    have hu' : unl ops (listed.setIfInBounds i true) ≤ f := by
      have := filter_lt (fun j => !listed.getD j false) (fun j => !(listed.setIfInBounds i true).getD j false) i (fun x hx => by
        simp only [hset] at hx
        by_cases hxi : x = i
        · subst hxi; simp at hx
        · simpa [hxi] using hx) (by simp [h0]) (by simp [hset]) (List.range ops.size) (List.mem_range.2 hi)
      unfold unl at hu ⊢
      omega
    have hdc' : ∀ j o', (listed.setIfInBounds i true).getD j false = true → ops[j]? = some o' → ∀ e ∈ o'.after, Region.binds .any e = true → (listed.setIfInBounds i true).getD e.on false = true := fun j o' hj ho' e he hb => by
      rw [hset] at hj ⊢
      by_cases hji : j = i
      · subst hji
        have := hpre' o' ho' e he hb
        simp [this]
      · rw [if_neg hji] at hj
        have := hI.dc j o' hj ho' e he hb
        simp [this]
    have hdst : dstOf ops i = o.dst := by simp [dstOf, ho]
    have hH : i ∈ H := (F.cover i hi).resolve_right (fun h => nomatch h)
    have hlook : ∀ t ∈ o.looksAt ops, sT.t t = s.t t := fun t ht => by
      by_cases hx : ∃ j, dstOf ops j = some t
      · obtain ⟨j, hj⟩ := hx
        obtain ⟨l1, l2, hl⟩ := List.append_of_mem (List.mem_append_left [] hH)
        obtain ⟨hjl, hje⟩ := (F.data l1 i l2 hl).2 t j ⟨o, ho, ht⟩ hj
        obtain ⟨e, he, hb, hon⟩ := edge_on hje ho
        have hlj : listed.getD j false = true := by rw [← hon]; exact hpre e he hb
        exact (hI.hb j ((F.cover j (dstOf_lt hj)).resolve_right (fun h => nomatch h)) hlj t hj).symm
      · exact (hI.hc t fun j hj => hx ⟨j, hj⟩).symm
    obtain ⟨o', ho', hf⟩ := hI.fact i hH h0
    rw [ho] at ho'; cases ho'
    have hsem : o.semAt r (rd n sT) = o.semAt r (rd n s) := semAt_congr ops (F.plain i o ho) hlook
    have hwn : Region.wanted o (yieldedE ops n sT) = Region.wanted o (yieldedE ops n s) := wanted_congr ops hlook
    have hnext : ∀ v, (∀ d, o.dst = some d → sT.t d = v) → AnyO P r n ops K X f (listed.setIfInBounds i true) (s.put o.dst v) w := fun v hv => by
      refine ih _ _ hu' ⟨by simpa using hI.sz, hdc', fun j hj hl d hd => ?_, fun t ht => ?_, by rw [put_d]; exact hI.hd, fun j hj hl => ?_⟩
      · rw [hset] at hl
        by_cases hji : j = i
        · subst hji
          rw [hdst] at hd
          rw [hd, put_some, St.set_t, if_pos rfl]
          exact (hv d hd).symm
        · rw [if_neg hji] at hl
          rw [put_t]
          · exact hI.hb j hj hl d hd
          · intro e
            exact F.dist j i d hji hd (by rw [hdst, e])
      · rw [put_t]
        · exact hI.hc t ht
        · intro e
          exact ht i (by rw [hdst, e])
      · rw [hset] at hl
        by_cases hji : j = i
        · rw [if_pos hji] at hl; cases hl
        · rw [if_neg hji] at hl; exact hI.fact j hj hl
    show Op1 P r n ops _ X i s w
    unfold Op1
    simp only [ho]
    rcases hf with ⟨hwt, v, hv, hdv⟩ | ⟨hwf, hdv⟩
    · rw [← hwn, if_pos hwt]
      unfold OpW
      rw [← hsem, hv]
      exact hnext v hdv
    · rw [← hwn, if_neg (by simp [hwf])]
      exact hnext undef hdv

def OpsD (P : Program) (r : Option Nat) (n : Nat) (ops : Array Oper) (E : List Nat) (C2 : World → Prop) (K : St → World → Prop) (X : List PanicEntry → St → World → Prop) : List Nat → St → World → Prop
  | [], s, w => K s w
  | i :: l, s, w =>
    match ops[i]? with
    | none => False
    | some o =>
      if Region.wanted o (yieldedE ops n s) then OpW P r n o s w (fun s' w' => (C2 w' ∨ E.all (fun e => anc ops ops.size i e) = true) ∧ OpsD P r n ops E C2 K X l s' w') (fun ch w' => X ch s w')
      else OpsD P r n ops E C2 K X l (s.put o.dst undef) w

structure Inv3 (P : Program) (r : Option Nat) (n : Nat) (ops : Array Oper) (H T E : List Nat) (K : St → World → Prop) (X : List PanicEntry → St → World → Prop) (C C2 : World → Prop) (sT : St) (listed : Array Bool) (s : St) (w : World) : Prop where
  sz : listed.size = ops.size
  dc : ∀ i o, listed.getD i false = true → ops[i]? = some o → ∀ e ∈ o.after, Region.binds .any e = true → listed.getD e.on false = true
  hb : ∀ j ∈ H, listed.getD j false = true → ∀ d, dstOf ops j = some d → s.t d = sT.t d
  hc : ∀ t, (∀ j, dstOf ops j ≠ some t) → s.t t = sT.t t
  ht : ∃ T1 T2, T = T1 ++ T2 ∧ (∀ j ∈ T1, listed.getD j false = true) ∧ (∀ j ∈ T2, listed.getD j false = false) ∧
    ((T1 = [] ∧ C w ∧ fill ops H sT s = sT) ∨ (T1 ≠ [] ∧ (C2 w ∨ ∀ e ∈ E, listed.getD e false = true) ∧ OpsD P r n ops E C2 K X T2 (fill ops H sT s) w))

def PostQ (P : Program) (r : Option Nat) (n : Nat) (ops : Array Oper) (E B : List Nat) (K : St → World → Prop) (s : St) (w : World) : Prop :=
  OpsQ P r n ops E (fun w' => w' = w) (fun w' => w' = w) (fun sF => K sF w) B s

structure PostFacts (ops : Array Oper) (H E T B EB : List Nat) : Prop where
  tail : ∀ l1 a b l2, T = l1 ++ a :: b :: l2 → anc ops ops.size b a = true
  head : ∀ h ∈ H, ∀ t l, T = t :: l → ((∃ o : Oper, ops[h]? = some o ∧ isPur o.op = true) ∨ E.contains h = true) ∨ anc ops ops.size t h = true
  post : ∀ b ∈ B, ∀ t ∈ T, anc ops ops.size b t = true
  pure : ∀ b ∈ B, (∃ o : Oper, ops[b]? = some o ∧ isPur o.op = true) ∨ EB.contains b = true
  ne : T ≠ []

theorem opsQ_factsP {HH E0 : List Nat} (F : RegFacts ops HH E0 []) {k : St → Prop} : ∀ (l l1 R : List Nat), HH = l1 ++ l ++ R → ∀ s, OpsQ P r n ops E C C2 k l s →
    ∃ sT, k sT ∧ (∀ t, (∀ i ∈ l, dstOf ops i ≠ some t) → sT.t t = s.t t) ∧ sT.d = s.d ∧ ∀ i ∈ l, FactAt P r n ops E C C2 sT i
  | [], l1, R, _, s, h => ⟨s, h, fun _ _ => rfl, rfl, fun _ h => nomatch h⟩
  | i :: l, l1, R, hl, s, h => by
    simp only [OpsQ] at h
    have hsplit : HH ++ [] = l1 ++ i :: (l ++ R) := by rw [hl]; simp
    obtain ⟨hni, hdata⟩ := F.data l1 i (l ++ R) hsplit
    cases ho : ops[i]? with
    | none => rw [ho] at h; exact h.elim
    | some o =>
      simp only [ho] at h
      -- later heads do not write what i looks at, nor its own slot
      have hlater : ∀ j ∈ l, j ∉ l1 ∧ j ≠ i := fun j hj => by
        obtain ⟨m1, m2, rfl⟩ := List.append_of_mem hj
        have := (F.data (l1 ++ i :: m1) j (m2 ++ R) (by rw [hl]; simp)).1
        simp at this
        exact ⟨this.1, this.2.1⟩
      have hlook : ∀ t ∈ o.looksAt ops, (∀ j ∈ l, dstOf ops j ≠ some t) ∧ o.dst ≠ some t := fun t ht => by
        refine ⟨fun j hj hd => (hlater j hj).1 (hdata t j ⟨o, ho, ht⟩ hd).1, fun hd => ?_⟩
        have : dstOf ops i = some t := by simp [dstOf, ho, hd]
        exact hni (hdata t i ⟨o, ho, ht⟩ this).1
      have step : ∀ v, OpsQ P r n ops E C C2 k l (s.put o.dst v) → ∃ sT, k sT ∧ (∀ t, (∀ j ∈ i :: l, dstOf ops j ≠ some t) → sT.t t = s.t t) ∧ sT.d = s.d ∧ (∀ j ∈ l, FactAt P r n ops E C C2 sT j) ∧
          (∀ t ∈ o.looksAt ops, s.t t = sT.t t) ∧ (∀ d, o.dst = some d → sT.t d = v) := fun v hv => by
        obtain ⟨sT, h1, h2, h3, h4⟩ := opsQ_factsP F l (l1 ++ [i]) R (by rw [hl]; simp) _ hv
        refine ⟨sT, h1, fun t ht => ?_, by rw [h3, put_d], h4, fun t ht => ?_, fun d hd => ?_⟩
        · rw [h2 t (fun j hj => ht j (List.mem_cons_of_mem _ hj)), put_t]
          intro hd
          exact ht i List.mem_cons_self (by simp [dstOf, ho, hd])
        · rw [h2 t (hlook t ht).1, put_t (hlook t ht).2]
        · rw [h2 d (fun j hj => F.dist i j d (fun e => (hlater j hj).2 e.symm) (by simp [dstOf, ho, hd])), hd, put_some, St.set_t, if_pos rfl]
      by_cases hw : Region.wanted o (yieldedE ops n s) = true
      · rw [if_pos hw] at h
        obtain ⟨v, hv, hrest⟩ := h
        obtain ⟨sT, h1, h2, h3, h4, h5, h6⟩ := step v hrest
        refine ⟨sT, h1, h2, h3, fun j hj => ?_⟩
        rcases List.mem_cons.1 hj with rfl | hj
        · refine ⟨o, ho, .inl ⟨by rw [← wanted_congr ops h5]; exact hw, v, ?_, h6⟩⟩
          have he := semAt_congr (r := r) (n := n) ops (F.plain _ o ho) h5
          split
          · rename_i hp; rw [if_pos hp] at hv; unfold Pur at *; rw [← he]; exact hv
          · rename_i hp; rw [if_neg hp] at hv
            split
            · rename_i hp2; rw [if_pos hp2] at hv; unfold LdY at *; rw [← he]; exact hv
            · rename_i hp2; rw [if_neg hp2] at hv; unfold Yld at *; rw [← he]; exact hv
        · exact h4 j hj
      · rw [if_neg hw] at h
        obtain ⟨sT, h1, h2, h3, h4, h5, h6⟩ := step undef h
        refine ⟨sT, h1, h2, h3, fun j hj => ?_⟩
        rcases List.mem_cons.1 hj with rfl | hj
        · exact ⟨o, ho, .inr ⟨by rw [← wanted_congr ops h5]; simpa using hw, h6⟩⟩
        · exact h4 j hj

theorem inv_post {EB : List Nat} (F : RegFacts ops (H ++ T ++ B) [] []) (G : PostFacts ops H E T B EB) (hX : ∀ c s s' w, X c s w → X c s' w) {sT : St} (hfact : ∀ i ∈ H, FactAt P r n ops E C C2 sT i) (hCC : ∀ w, C w → C2 w) (hT : ∀ w, C w → OpsD P r n ops E C2 (PostQ P r n ops EB B K) X T sT w) : ∀ (f : Nat) (listed : Array Bool) (s : St) (w : World),
    unl ops listed ≤ f → Inv3 P r n ops H T E (PostQ P r n ops EB B K) X C C2 sT listed s w → (∃ t ∈ T, listed.getD t false = false) → AnyO P r n ops K X f listed s w := by
  have data : ∀ l1 i l2, H ++ T = l1 ++ i :: l2 → i ∉ l1 ∧ ∀ t j, Look ops i t → dstOf ops j = some t → j ∈ l1 ∧ edge ops i j = true := fun l1 i l2 h => F.data l1 i (l2 ++ B) (by rw [List.append_nil, h]; simp)
  have cover : ∀ i, i < ops.size → i ∈ H ∨ i ∈ T ∨ i ∈ B := fun i hi => by
    rcases F.cover i hi with h | h
    · rcases List.mem_append.1 h with h | h
      · rcases List.mem_append.1 h with h | h
        · exact .inl h
        · exact .inr (.inl h)
      · exact .inr (.inr h)
    · cases h
  have lt : ∀ i ∈ H ++ T, i < ops.size := fun i hi => F.lt i (by rw [List.append_nil]; exact List.mem_append_left _ hi)
  intro f
  induction f with
  | zero =>
    intro listed s w hu hI hne
    have hall : ∀ i, i < ops.size → listed.getD i false = true := fun i hi => by
      by_cases hl : listed.getD i false = true
      · exact hl
      · exfalso
        have : i ∈ (List.range ops.size).filter fun i => !listed.getD i false := by
          rw [List.mem_filter]; exact ⟨List.mem_range.2 hi, by simpa using hl⟩
        have := List.length_pos_of_mem this
        unfold unl at hu
        omega
    exfalso
    obtain ⟨t, ht, hl⟩ := hne
    have := hall t (lt t (List.mem_append_right _ ht))
    rw [hl] at this
    cases this
  | succ f ih =>
    intro listed s w hu hI hne
    refine ⟨fun hr => ?_, fun i hir => ?_⟩
    · exfalso
      obtain ⟨t, ht, hl⟩ := hne
      have := done_all F hI.sz hr t (lt t (List.mem_append_right _ ht))
      rw [hl] at this
      cases this
    rw [mem_ready] at hir
    obtain ⟨h0, o, ho, hpre⟩ := hir
    have hi : i < ops.size := (Array.getElem?_eq_some_iff.1 ho).1
    have hil : i < listed.size := by rw [hI.sz]; exact hi
    rw [getD_flip hil] at h0
    have hset : ∀ j, (listed.setIfInBounds i true).getD j false = if j = i then true else listed.getD j false := fun j => by
      by_cases hj : j = i
      · subst hj; simp [Array.getD, hil]
      · rw [if_neg hj, getD_set_ne false (Ne.symm hj)]
    have hpre' : ∀ o', ops[i]? = some o' → ∀ e ∈ o'.after, Region.binds .any e = true → listed.getD e.on false = true := fun o' ho' => by
      rw [ho] at ho'; cases ho'; exact hpre
    have hu' : unl ops (listed.setIfInBounds i true) ≤ f := by
      have := filter_lt (fun j => !listed.getD j false) (fun j => !(listed.setIfInBounds i true).getD j false) i (fun x hx => by
        simp only [hset] at hx
        by_cases hxi : x = i
        · subst hxi; simp at hx
        · simpa [hxi] using hx) (by simp [h0]) (by simp [hset]) (List.range ops.size) (List.mem_range.2 hi)
      unfold unl at hu ⊢
      omega
    have hdc' : ∀ j o', (listed.setIfInBounds i true).getD j false = true → ops[j]? = some o' → ∀ e ∈ o'.after, Region.binds .any e = true → (listed.setIfInBounds i true).getD e.on false = true := fun j o' hj ho' e he hb => by
      rw [hset] at hj ⊢
      by_cases hji : j = i
      · subst hji
        have := hpre' o' ho' e he hb
        simp [this]
      · rw [if_neg hji] at hj
        have := hI.dc j o' hj ho' e he hb
        simp [this]
    have hdst : dstOf ops i = o.dst := by simp [dstOf, ho]
    obtain ⟨T1, T2, hTe, h1, h2, h3⟩ := hI.ht
    rcases cover i hi with hH | hTm | hB
    · -- a head
      have hiT : i ∉ T := fun hm => by
        obtain ⟨m1, m2, rfl⟩ := List.append_of_mem hm
        have := (data (H ++ m1) i m2 (by simp)).1
        simp at this
        exact this.1 hH
      -- what it looks at is as at the end
      have hlook : ∀ t ∈ o.looksAt ops, sT.t t = s.t t := fun t ht => by
        by_cases hx : ∃ j, dstOf ops j = some t
        · obtain ⟨j, hj⟩ := hx
          obtain ⟨l1, l2, hl⟩ := List.append_of_mem (List.mem_append_left T hH)
          obtain ⟨hjl, hje⟩ := (data l1 i l2 hl).2 t j ⟨o, ho, ht⟩ hj
          obtain ⟨e, he, hb, hon⟩ := edge_on hje ho
          have hlj : listed.getD j false = true := by rw [← hon]; exact hpre e he hb
          -- j is a head
          have hjH : j ∈ H := by
            obtain ⟨m1, m2, hm⟩ := List.append_of_mem hH
            have hl' : H ++ T = m1 ++ i :: (m2 ++ T) := by rw [hm]; simp
            have hjm1 := ((data m1 i (m2 ++ T) hl').2 t j ⟨o, ho, ht⟩ hj).1
            rw [hm]
            exact List.mem_append_left _ hjm1
          exact (hI.hb j hjH hlj t hj).symm
        · exact (hI.hc t fun j hj => hx ⟨j, hj⟩).symm
      obtain ⟨o', ho', hf⟩ := hfact i hH
      rw [ho] at ho'; cases ho'
      have hsem : o.semAt r (rd n sT) = o.semAt r (rd n s) := semAt_congr ops (F.plain i o ho) hlook
      have hwn : Region.wanted o (yieldedE ops n sT) = Region.wanted o (yieldedE ops n s) := wanted_congr ops hlook
      have hfillH : ∀ v, fill ops H sT (s.put o.dst v) = fill ops H sT s := fun v => fill_put_head fun t ht => ⟨i, hH, by rw [hdst, ht]⟩
      -- how it goes on
      have hnext : ∀ v w', (∀ d, o.dst = some d → sT.t d = v) → ((T1 = [] ∧ C w') ∨ (T1 ≠ [] ∧ w' = w)) → AnyO P r n ops K X f (listed.setIfInBounds i true) (s.put o.dst v) w' := fun v w' hv hw' => by
        refine ih _ _ _ hu' ⟨by simpa using hI.sz, hdc', fun j hj hl d hd => ?_, fun t ht => ?_, T1, T2, hTe, fun j hj => ?_, fun j hj => ?_, ?_⟩ (by
          obtain ⟨t, ht, hl⟩ := hne
          exact ⟨t, ht, by rw [hset, if_neg (fun e => by subst e; exact hiT ht)]; exact hl⟩)
        · rw [hset] at hl
          by_cases hji : j = i
          · subst hji
            rw [hdst] at hd
            rw [hd, put_some, St.set_t, if_pos rfl]
            exact (hv d hd).symm
          · rw [if_neg hji] at hl
            rw [put_t]
            · exact hI.hb j hj hl d hd
            · intro e
              exact F.dist j i d hji hd (by rw [hdst, e])
        · rw [put_t]
          · exact hI.hc t ht
          · intro e
            exact ht i (by rw [hdst, e])
        · rw [hset]; simp [h1 j hj]
        · rw [hset]
          have : j ≠ i := fun e => hiT (by rw [hTe, ← e]; simp [hj])
          simp [this, h2 j hj]
        · rw [hfillH]
          rcases h3 with ⟨ha, hb, hc⟩ | ⟨ha, hb⟩
          · rcases hw' with ⟨_, hC⟩ | ⟨h', _⟩
            · exact .inl ⟨ha, hC, hc⟩
            · exact absurd ha h'
          · rcases hw' with ⟨h', _⟩ | ⟨_, rfl⟩
            · exact absurd h' ha
            · exact .inr ⟨ha, hb.1.imp id fun h e he => by rw [hset]; simp [h e he], hb.2⟩
      show Op1 P r n ops _ X i s w
      unfold Op1
      simp only [ho]
      rcases hf with ⟨hwt, v, hv, hdv⟩ | ⟨hwf, hdv⟩
      · rw [← hwn, if_pos hwt]
        unfold OpW
        rw [← hsem]
        rcases h3 with ⟨ha, hC, hc⟩ | ⟨ha, hb⟩
        · have hy : Yld P r n C o sT v := by
            split at hv
            · exact Pur.yld hv
            · split at hv
              · exact LdY.yld hCC hv
              · exact hv
          have hyw := hy w hC
          revert hyw
          cases (o.semAt r (rd n sT)).run P w with
          | ok m w' =>
            cases m <;> simp only
            case value u =>
              rintro ⟨rfl, hC'⟩
              exact hnext _ w' hdv (.inl ⟨ha, hC'⟩)
            case enter fn args =>
              intro hcall
              refine hcall.mono fun e w'' ⟨he, hC'⟩ => ?_
              subst he
              exact hnext _ w'' hdv (.inl ⟨ha, hC'⟩)
            all_goals exact fun h => h.elim
          | halt x w' => simp only; exact fun h => h.elim
        · -- behind the first of the tail: it is pure, or a late load
          have hp : isPur o.op = true ∨ E.contains i = true := by
            cases T1 with
            | nil => exact absurd rfl ha
            | cons t l =>
              rcases G.head i hH t (l ++ T2) (by rw [hTe]; simp) with (⟨o', ho', hp⟩ | hE) | hanc
              · rw [ho] at ho'; cases ho'; exact .inl hp
              · exact .inr hE
              · exfalso
                have hlt := h1 t List.mem_cons_self
                have := anc_listed hI.dc ops.size t i hanc (fun o' ho' e he hb => hI.dc t o' hlt ho' e he hb)
                rw [h0] at this
                cases this
          have hrun : (o.semAt r (rd n sT)).run P w = .ok (.value v) w := by
            by_cases hp1 : isPur o.op = true
            · rw [if_pos hp1] at hv; exact hv w
            · rw [if_neg hp1, if_pos (hp.resolve_left hp1)] at hv
              rcases hb.1 with hc2 | hall
              · exact hv w hc2
              · exfalso
                have := hall i (by simpa using hp.resolve_left hp1)
                rw [h0] at this
                cases this
          rw [hrun]
          exact hnext _ w hdv (.inr ⟨ha, rfl⟩)
      · rw [← hwn, if_neg (by simp [hwf])]
        refine hnext undef w hdv ?_
        rcases h3 with ⟨ha, hC, hc⟩ | ⟨ha, hb⟩
        · exact .inl ⟨ha, hC⟩
        · exact .inr ⟨ha, rfl⟩
    · -- one of the tail: it is the next
      have hiH : i ∉ H := fun hm => by
        obtain ⟨m1, m2, hk⟩ := List.append_of_mem hTm
        have := (data (H ++ m1) i m2 (by rw [hk]; simp)).1
        simp at this
        exact this.1 hm
      have hiT2 : i ∈ T2 := by
        rw [hTe] at hTm
        rcases List.mem_append.1 hTm with h | h
        · have := h1 i h; rw [h0] at this; cases this
        · exact h
      obtain ⟨T2', rfl⟩ : ∃ T2', T2 = i :: T2' := by
        obtain ⟨m1, m2, hm⟩ := List.append_of_mem hiT2
        rcases List.eq_nil_or_concat m1 with rfl | ⟨m1', a, rfl⟩
        · exact ⟨m2, hm⟩
        · exfalso
          have hanc := G.tail (T1 ++ m1') a i m2 (by rw [hTe, hm]; simp)
          have := anc_listed hI.dc ops.size i a hanc hpre'
          rw [h2 a (by rw [hm]; simp)] at this
          cases this
      have hC2w : C2 w ∨ ∀ e ∈ E, listed.getD e false = true := by
        rcases h3 with ⟨_, hC, _⟩ | ⟨_, hb, _⟩
        · exact .inl (hCC w hC)
        · exact hb
      have hC2n : ∀ w', (C2 w' ∨ E.all (fun e => anc ops ops.size i e) = true) → C2 w' ∨ ∀ e ∈ E, listed.getD e false = true := fun w' h =>
        h.imp id fun h e he => anc_listed hI.dc ops.size i e (List.all_eq_true.1 h e he) hpre'
      have hops : OpsD P r n ops E C2 (PostQ P r n ops EB B K) X (i :: T2') (fill ops H sT s) w := by
        rcases h3 with ⟨rfl, hC, hc⟩ | ⟨_, _, hb⟩
        · rw [hc]
          have := hT w hC
          rw [hTe] at this
          exact this
        · exact hb
      simp only [OpsD, ho] at hops
      have hnd : ∀ t, o.dst = some t → ¬ ∃ j ∈ H, dstOf ops j = some t := fun t ht ⟨j, hj, hd⟩ => by
        have hne : j ≠ i := fun e => hiH (e ▸ hj)
        exact F.dist j i t hne hd (by rw [hdst, ht])
      have hlook : ∀ t ∈ o.looksAt ops, (fill ops H sT s).t t = s.t t := fun t ht => by
        refine fill_t fun j hj hd => ?_
        obtain ⟨l1, l2, hl⟩ := List.append_of_mem (List.mem_append_right H hTm)
        obtain ⟨_, hje⟩ := (data l1 i l2 hl).2 t j ⟨o, ho, ht⟩ hd
        obtain ⟨e, he, hb, hon⟩ := edge_on hje ho
        exact hI.hb j hj (by rw [← hon]; exact hpre e he hb) t hd
      -- behind the tail: the followers and what is left of the heads
      have phase2 : ∀ (s' : St) w', (∀ t, o.dst ≠ some t → s'.t t = s.t t) → T2' = [] → (C2 w' ∨ ∀ e ∈ E, listed.getD e false = true) → PostQ P r n ops EB B K (fill ops H sT s') w' → AnyO P r n ops K X f (listed.setIfInBounds i true) s' w' := fun s' w' hs' hT2' hc2w' ho' => by
        subst hT2'
        have hsplit : H ++ T ++ B = (H ++ T) ++ B := rfl
        have hF2 : RegFacts ops (H ++ T ++ B) EB [] := ⟨F.lt, F.cover, F.plain, F.back, F.dist, F.data, F.tail, fun h hh t l ht => nomatch ht⟩
        obtain ⟨sF, hk, hs1, hd1, hfB⟩ := opsQ_facts hF2 B (H ++ T) rfl _ ho'
        have hBn : ∀ j ∈ H ++ T, ∀ d, dstOf ops j = some d → ∀ b ∈ B, dstOf ops b ≠ some d := fun j hj d hd b hb => by
          refine F.dist j b d ?_ hd
          rintro rfl
          obtain ⟨m1, m2, rfl⟩ := List.append_of_mem hb
          have := (F.data (H ++ T ++ m1) j m2 (by simp)).1
          exact this (List.mem_append_left _ hj)
        have hTn : ∀ j ∈ T, ∀ d, dstOf ops j = some d → (fill ops H sT s').t d = s'.t d := fun j hj d hd => by
          refine fill_t fun q hq hqd => ?_
          exfalso
          have hqj : q ≠ j := by
            rintro rfl
            obtain ⟨m1, m2, hm⟩ := List.append_of_mem hj
            have := (data (H ++ m1) q m2 (by rw [hm]; simp)).1
            simp at this
            exact this.1 hq
          exact F.dist q j d hqj hqd hd
        have hHf : ∀ j ∈ H, ∀ d, dstOf ops j = some d → (fill ops H sT s').t d = sT.t d := fun j hj d hd => by
          simp only [fill]
          rw [if_pos ⟨j, hj, hd⟩]
        have hs'H : ∀ j ∈ H, listed.getD j false = true → ∀ d, dstOf ops j = some d → s'.t d = sT.t d := fun j hj hl d hd => by
          rw [hs' d (fun e => hnd d e ⟨j, hj, hd⟩)]
          exact hI.hb j hj hl d hd
        refine inv_heads hF2 hk f _ s' hu' ⟨by simpa using hI.sz, hdc', fun j hj hl d hd => ?_, fun t ht => ?_, ?_, fun j hj hl => ?_⟩
        · rw [hset] at hl
          rcases List.mem_append.1 hj with hj | hj
          · rw [hs1 d (hBn j hj d hd)]
            rcases List.mem_append.1 hj with hj | hj
            · rw [hHf j hj d hd]
              have hji : j ≠ i := fun e => hiH (e ▸ hj)
              rw [if_neg hji] at hl
              exact hs'H j hj hl d hd
            · exact (hTn j hj d hd).symm
          · exfalso
            by_cases hji : j = i
            · subst hji
              obtain ⟨m1, m2, rfl⟩ := List.append_of_mem hj
              have := (F.data (H ++ T ++ m1) j m2 (by simp)).1
              exact this (List.mem_append_left _ (List.mem_append_right _ hTm))
            · rw [if_neg hji] at hl
              have := anc_listed hI.dc ops.size j i (G.post j hj i hTm) (fun o' ho' e he hb => hI.dc j o' hl ho' e he hb)
              rw [h0] at this
              cases this
        · rw [hs1 t (fun q _ => ht q)]
          simp only [fill]
          split
          · rename_i hx
            obtain ⟨q, _, hq⟩ := hx
            exact absurd hq (ht q)
          · rfl
        · rw [hd1]; rfl
        · rw [hset] at hl
          have hji : j ≠ i := by
            rintro rfl
            rw [if_pos rfl] at hl
            cases hl
          rw [if_neg hji] at hl
          rcases List.mem_append.1 hj with hj | hj
          · have hjH : j ∈ H := by
              rcases List.mem_append.1 hj with h | h
              · exact h
              · exfalso
                rw [hTe] at h
                rcases List.mem_append.1 h with h | h
                · have := h1 j h; rw [hl] at this; cases this
                · rcases List.mem_cons.1 h with h | h
                  · exact hji h
                  · cases h
            obtain ⟨q, hq, hf⟩ := hfact j hjH
            have hlk : ∀ t ∈ q.looksAt ops, sT.t t = sF.t t := fun t ht => by
              by_cases hx : ∃ z, dstOf ops z = some t
              · obtain ⟨z, hz⟩ := hx
                obtain ⟨m1, m2, hm⟩ := List.append_of_mem hjH
                have hzm := ((data m1 j (m2 ++ T) (by rw [hm]; simp)).2 t z ⟨q, hq, ht⟩ hz).1
                have hzH : z ∈ H := by rw [hm]; exact List.mem_append_left _ hzm
                rw [hs1 t (hBn z (List.mem_append_left _ hzH) t hz), hHf z hzH t hz]
              · rw [hs1 t (fun z _ hz => hx ⟨z, hz⟩)]
                simp only [fill]
                rw [if_neg (fun ⟨z, _, hz⟩ => hx ⟨z, hz⟩), hs' t (fun e => hx ⟨i, by rw [hdst]; exact e⟩)]
                exact (hI.hc t fun z hz => hx ⟨z, hz⟩).symm
            have hsem : q.semAt r (rd n sT) = q.semAt r (rd n sF) := semAt_congr ops (F.plain j q hq) hlk
            have hwn : Region.wanted q (yieldedE ops n sT) = Region.wanted q (yieldedE ops n sF) := wanted_congr ops hlk
            have hdq : ∀ d, q.dst = some d → sF.t d = sT.t d := fun d hd => by
              have hjd : dstOf ops j = some d := by simp [dstOf, hq, hd]
              rw [hs1 d (hBn j (List.mem_append_left _ hjH) d hjd), hHf j hjH d hjd]
            refine ⟨q, hq, ?_⟩
            rcases hf with ⟨hwt, v, hv, hdv⟩ | ⟨hwf, hdv⟩
            · refine .inl ⟨by rw [← hwn]; exact hwt, v, ?_, fun d hd => by rw [hdq d hd]; exact hdv d hd⟩
              rw [← hsem]
              have hp : isPur q.op = true ∨ E.contains j = true := by
                obtain ⟨t, l, htl⟩ : ∃ t l, T = t :: l := by
                  cases T with
                  | nil => exact absurd rfl G.ne
                  | cons t l => exact ⟨t, l, rfl⟩
                rcases G.head j hjH t l htl with (⟨q', hq', hp⟩ | hE) | hanc
                · rw [hq] at hq'; cases hq'; exact .inl hp
                · exact .inr hE
                · exfalso
                  have htT : t ∈ T := by rw [htl]; exact List.mem_cons_self
                  have : listed.getD j false = true := by
                    rcases (by rw [hTe] at htT; exact List.mem_append.1 htT : t ∈ T1 ∨ t ∈ [i]) with h | h
                    · exact anc_listed hI.dc ops.size t j hanc (fun o' ho' e he hb => hI.dc t o' (h1 t h) ho' e he hb)
                    · rw [List.mem_singleton.1 h] at hanc
                      exact anc_listed hI.dc ops.size i j hanc hpre'
                  rw [hl] at this
                  cases this
              by_cases hp1 : isPur q.op = true
              · rw [if_pos hp1] at hv; exact hv w'
              · rw [if_neg hp1, if_pos (hp.resolve_left hp1)] at hv
                rcases hc2w' with hc2 | hall
                · exact hv w' hc2
                · exfalso
                  have := hall j (by simpa using hp.resolve_left hp1)
                  rw [hl] at this
                  cases this
            · exact .inr ⟨by rw [← hwn]; exact hwf, fun d hd => by rw [hdq d hd]; exact hdv d hd⟩
          · obtain ⟨q, hq, hf⟩ := hfB j hj
            refine ⟨q, hq, ?_⟩
            rcases hf with ⟨hwt, v, hv, hdv⟩ | ⟨hwf, hdv⟩
            · refine .inl ⟨hwt, v, ?_, hdv⟩
              by_cases hp1 : isPur q.op = true
              · rw [if_pos hp1] at hv; exact hv w'
              · rcases G.pure j hj with ⟨q', hq', hp⟩ | hE
                · rw [hq] at hq'; cases hq'; exact absurd hp hp1
                · rw [if_neg hp1, if_pos hE] at hv; exact hv w' rfl
            · exact .inr ⟨hwf, hdv⟩
      have hnext : ∀ (s' : St) w', (∀ t, o.dst ≠ some t → s'.t t = s.t t) → (C2 w' ∨ ∀ e ∈ E, listed.getD e false = true) → OpsD P r n ops E C2 (PostQ P r n ops EB B K) X T2' (fill ops H sT s') w' → AnyO P r n ops K X f (listed.setIfInBounds i true) s' w' := fun s' w' hs' hc2 ho' => by
        by_cases hT2' : T2' = []
        · subst hT2'
          exact phase2 s' w' hs' rfl hc2 ho'
        refine ih _ _ _ hu' ⟨by simpa using hI.sz, hdc', fun j hj hl d hd => ?_, fun t ht => ?_, T1 ++ [i], T2', by rw [hTe]; simp, fun j hj => ?_, fun j hj => ?_, .inr ⟨by simp, hc2.imp id fun h e he => by rw [hset]; simp [h e he], ho'⟩⟩ (by
          cases T2' with
          | nil => exact absurd rfl hT2'
          | cons a l =>
            refine ⟨a, by rw [hTe]; simp, ?_⟩
            have hai : a ≠ i := by
              rintro rfl
              have := (data (H ++ T1 ++ [a]) a l (by rw [hTe]; simp)).1
              simp at this
            rw [hset, if_neg hai]
            exact h2 a (by simp))
        · have hji : j ≠ i := fun e => hiH (e ▸ hj)
          rw [hset, if_neg hji] at hl
          rw [hs' d (fun e => hnd d e ⟨j, hj, hd⟩)]
          exact hI.hb j hj hl d hd
        · rw [hs' t (fun e => ht i (by rw [hdst, e]))]
          exact hI.hc t ht
        · rw [hset]
          rcases List.mem_append.1 hj with h | h
          · simp [h1 j h]
          · simp at h; simp [h]
        · rw [hset]
          have hne : j ≠ i := by
            rintro rfl
            obtain ⟨m1, m2, rfl⟩ := List.append_of_mem hj
            have := (data (H ++ T1 ++ j :: m1) j m2 (by rw [hTe]; simp)).1
            simp at this
          simp [hne, h2 j (List.mem_cons_of_mem _ hj)]
      show Op1 P r n ops _ X i s w
      unfold Op1
      simp only [ho]
      have hwn : Region.wanted o (yieldedE ops n (fill ops H sT s)) = Region.wanted o (yieldedE ops n s) := wanted_congr ops hlook
      rw [hwn] at hops
      split
      · rename_i hw
        rw [if_pos hw] at hops
        refine opW_transfer ops (F.plain i o ho) hlook (fun v w' h => ?_) (fun d v w' h => ?_) (fun c w' h => hX _ _ _ _ h) hops
        · refine hnext _ _ (fun t ht => put_t ht) (hC2n _ h.1) ?_
          rw [← fill_put_tail hnd]; exact h.2
        · refine hnext _ _ (fun t ht => put_t ht) (hC2n _ h.1) ?_
          have e1 : (({ fill ops H sT s with d := d :: (fill ops H sT s).d } : St)) = fill ops H sT { s with d := d :: s.d } := rfl
          rw [e1] at h
          rw [← fill_put_tail hnd]; exact h.2
      · rename_i hw
        rw [if_neg hw] at hops
        refine hnext _ _ (fun t ht => put_t ht) hC2w ?_
        rw [← fill_put_tail hnd]; exact hops
    · -- a follower cannot come before the tail's end
      exfalso
      obtain ⟨t, ht, hl⟩ := hne
      have := anc_listed hI.dc ops.size i t (G.post i hB t ht) hpre'
      rw [hl] at this
      cases this

def postOk (ops : Array Oper) (H E T B EB : List Nat) : Bool :=
  regOk ops (H ++ T ++ B) [] [] && tailOk ops T && H.all (headOk ops E T) && (B.all fun b => T.all fun t => anc ops ops.size b t) &&
  (B.all fun b => ((ops[b]?).map (isPur ·.op)).getD false || EB.contains b) && !T.isEmpty

theorem postFacts {EB : List Nat} (h : postOk ops H E T B EB = true) : RegFacts ops (H ++ T ++ B) [] [] ∧ PostFacts ops H E T B EB := by
  unfold postOk at h
  simp only [Bool.and_eq_true] at h
  obtain ⟨⟨⟨⟨⟨h1, h2⟩, h3⟩, h4⟩, h5⟩, h6⟩ := h
  refine ⟨regFacts h1, ⟨fun l1 a b l2 hl => tailOk_split l1 a b l2 (hl ▸ h2), fun h hh t l ht => ?_, fun b hb t ht => ?_, fun b hb => ?_, ?_⟩⟩
  · have := List.all_eq_true.1 h3 h hh
    unfold headOk at this
    rw [ht] at this
    simp only [Bool.and_eq_true, Bool.or_eq_true] at this
    rcases this.2 with (hp | hE) | hanc
    · refine .inl (.inl ?_)
      cases ho : ops[h]? with
      | none => rw [ho] at hp; cases hp
      | some o => rw [ho] at hp; exact ⟨o, rfl, hp⟩
    · exact .inl (.inr hE)
    · exact .inr hanc
  · exact List.all_eq_true.1 (List.all_eq_true.1 h4 b hb) t ht
  · have := List.all_eq_true.1 h5 b hb
    simp only [Bool.or_eq_true] at this
    rcases this with hp | hE
    · refine .inl ?_
      cases ho : ops[b]? with
      | none => rw [ho] at hp; cases hp
      | some o => rw [ho] at hp; exact ⟨o, rfl, hp⟩
    · exact .inr hE
  · rintro rfl
    simp at h6

theorem opsD_tail {K : St → World → Prop} {X : List PanicEntry → St → World → Prop} {s : St} {w : World} {i : Nat} {l : List Nat} {o : Oper} (ho : ops[i]? = some o) (hw : Region.wanted o (yieldedE ops n s) = true) (h : OpsL P r n ops (fun s w => (C2 w ∨ E.all (fun e => anc ops ops.size i e) = true) ∧ OpsD P r n ops E C2 K X l s w) X [o] s w) : OpsD P r n ops E C2 K X (i :: l) s w := by
  simp only [OpsD, ho, hw, if_true]
  simp only [OpsL, hw, if_true] at h
  exact h

theorem opsD_nil {K : St → World → Prop} {X : List PanicEntry → St → World → Prop} {s : St} {w : World} (h : K s w) : OpsD P r n ops E C2 K X [] s w := h

theorem w_drawP {id : Nat} {Q : Exit → St → World → Prop} {s : St} {w : World} (H E T B EB : List Nat) (C C2 : World → Prop) (hm : P.follows .mixedOrders = true) (hchk : postOk ops H E T B EB = true) (hX : ∀ c s s' w, Q (.panic c) s w → Q (.panic c) s' w) (hC : ∀ w', To w w' w.heap → C w') (hCC : ∀ w', C w' → C2 w')
    (h : OpsQ P r n ops E C C2 (fun sT => ∀ w', C w' → OpsD P r n ops E C2 (PostQ P r n ops EB B (Q .normal)) (fun c => Q (.panic c)) T sT w') H s) : W P r n (.region id ops true) Q s w := by
  obtain ⟨F, G⟩ := postFacts hchk
  refine w_region_any hm fun w' hw' => ?_
  have hF2 : RegFacts ops (H ++ (T ++ B)) E [] := by
    rw [← List.append_assoc]
    exact ⟨F.lt, F.cover, F.plain, F.back, F.dist, F.data, F.tail, fun h hh t l ht => nomatch ht⟩
  obtain ⟨sT, h1, h2, h3, h4⟩ := opsQ_factsP F H [] (T ++ B) (by simp) s h
  refine inv_post F G hX h4 hCC h1 ops.size _ s w' ?_ ⟨by simp, fun i o hi => ?_, fun j _ hl => ?_, fun t ht => (h2 t fun j _ => ht j).symm, [], T, rfl, (fun j hj => nomatch hj), (fun j hj => ?_), .inl ⟨rfl, hC w' hw', ?_⟩⟩ ?_
  · unfold unl
    exact Nat.le_trans (List.length_filter_le _ _) (by simp)
  · exfalso; simp [Array.getD] at hi
  · exfalso; simp [Array.getD] at hl
  · simp [Array.getD]
  · refine St.ext (fun t => ?_) ?_
    · simp only [fill]
      split
      · rfl
      · rename_i hx
        exact (h2 t fun j hj hd => hx ⟨j, hj, hd⟩).symm
    · simp only [fill]; exact h3.symm
  · cases hT : T with
    | nil => exact absurd hT G.ne
    | cons t l => exact ⟨t, List.mem_cons_self, by simp [Array.getD]⟩

theorem wk_drawP {id : Nat} {ol : List Oper} {K : St → World → Prop} {Q : Ex} {s : St} {w : World} (H E T B EB : List Nat) (C C2 : World → Prop) (hm : P.follows .mixedOrders = true) (hchk : postOk ol.toArray H E T B EB = true) (hX : ∀ c s s' w, Q (.panic c) s w → Q (.panic c) s' w) (hC : ∀ w', To w w' w.heap → C w') (hCC : ∀ w', C w' → C2 w')
    (h : OpsQ P r n ol.toArray E C C2 (fun sT => ∀ w', C w' → OpsD P r n ol.toArray E C2 (PostQ P r n ol.toArray EB B K) (fun c => Q (.panic c)) T sT w') H s) : WK P r n (.region id ol.toArray true) K Q s w := by
  unfold WK
  exact w_drawP H E T B EB C C2 hm hchk hX hC hCC h
end
end Go.Pd

/-
  Maps: made, looked up, updated, deleted from, counted.
-/
set_option linter.unusedSimpArgs false
set_option linter.unnecessarySimpa false
set_option maxRecDepth 10000
set_option linter.unusedVariables false
set_option linter.unusedSectionVars false
namespace Go.Pd
variable {P : Program} {r : Option Nat} {n : Nat}

structure Key (P : Program) (kt : TypeId) {α : Type} [DecidableEq α] (f : α → Value) : Prop where
  chk : ∀ (e : Bool) (a : α) (w : World), (Instr.checkKey e 10000 kt (f a)).run P w = .ok () w
  eql : ∀ (a b : α) (w : World), (Op.equal kt (f a) (f b)).run P w = .ok (decide (a = b)) w
  now : ∀ (a b : α) (u : TypeDesc), P.underlying kt = some u → ∀ x, Instr.sameNow u (f a) (f b) = some x → x = decide (a = b)
  same : ∀ a, Instr.sameBits 10000 (f a) (f a) = true
  und : ∃ u, P.underlying kt = some u

section
variable {α : Type} [DecidableEq α] {f : α → Value}

def assocIdx : List (α × Value) → α → Nat → Option (Nat × Value)
  | [], _, _ => none
  | (b, v) :: l, a, i => if a = b then some (i, v) else assocIdx l a (i + 1)

def get : List (α × Value) → α → Option Value
  | [], _ => none
  | (b, v) :: l, a => if a = b then some v else get l a

def ins : List (α × Value) → α → Value → List (α × Value)
  | [], a, v => [(a, v)]
  | (b, u) :: l, a, v => if a = b then (b, v) :: l else (b, u) :: ins l a v

def del : List (α × Value) → α → List (α × Value)
  | [], _ => []
  | (b, u) :: l, a => if a = b then l else (b, u) :: del l a

theorem get_assoc : ∀ (l : List (α × Value)) (a : α) (i : Nat), (assocIdx l a i).map (·.2) = get l a
  | [], _, _ => rfl
  | (b, v) :: l, a, i => by
    simp only [assocIdx, get]
    split
    · rfl
    · exact get_assoc l a (i + 1)

theorem get_ins : ∀ (l : List (α × Value)) (a : α) (v : Value) (c : α), get (ins l a v) c = if c = a then some v else get l c
  | [], a, v, c => by simp [ins, get]
  | (b, u) :: l, a, v, c => by
    simp only [ins]
    by_cases h : a = b
    · subst h
      rw [if_pos rfl]
      simp only [get]
      by_cases h2 : c = a
      · simp [h2]
      · simp [h2]
    · rw [if_neg h]
      simp only [get]
      rw [get_ins l a v c]
      by_cases h2 : c = b
      · subst h2
        simp [Ne.symm h]
      · simp [h2]

theorem keys_ins (l : List (α × Value)) (a : α) (v : Value) : (ins l a v).map (·.1) = if a ∈ l.map (·.1) then l.map (·.1) else l.map (·.1) ++ [a] := by
  induction l with
  | nil => simp [ins]
  | cons p l ih =>
    obtain ⟨b, u⟩ := p
    simp only [ins]
    by_cases h : a = b
    · subst h; simp
    · rw [if_neg h]
      simp only [List.map_cons, ih, List.mem_cons, h, false_or]
      split <;> simp

theorem nodup_ins {l : List (α × Value)} (h : (l.map (·.1)).Nodup) (a : α) (v : Value) : ((ins l a v).map (·.1)).Nodup := by
  rw [keys_ins]
  split
  · exact h
  · rename_i hn
    rw [List.nodup_append]
    refine ⟨h, by simp, ?_⟩
    intro x hx y hy
    simp at hy
    subst hy
    exact fun e => hn (e ▸ hx)

theorem get_mem : ∀ (l : List (α × Value)) (a : α), get l a = none ↔ a ∉ l.map (·.1)
  | [], a => by simp [get]
  | (b, v) :: l, a => by
    simp only [get, List.map_cons, List.mem_cons, not_or]
    split
    · rename_i h; simp [h]
    · rename_i h
      rw [get_mem l a]
      simp [h]

structure MapR (f : α → Value) (es : Array MapEntry) (l : List (α × Value)) : Prop where
  eq : es.toList.map (fun e => (e.key, e.val)) = l.map (fun p => (f p.1, p.2))
  nd : (l.map (·.1)).Nodup

theorem MapR.nil : MapR f #[] [] := ⟨rfl, List.nodup_nil⟩
theorem MapR.size {es : Array MapEntry} {l : List (α × Value)} (h : MapR f es l) : es.size = l.length := by
  have := congrArg List.length h.eq
  simpa using this

theorem run_findAsking {kt : TypeId} (hk : Key P kt f) (a : α) (w : World) : ∀ (es : List MapEntry) (l : List (α × Value)) (i : Nat), es.map (fun e => (e.key, e.val)) = l.map (fun p => (f p.1, p.2)) →
    (Instr.findAsking kt (f a) es i).run P w = .ok (assocIdx l a i) w
  | [], [], i, _ => rfl
  | e :: es, (b, v) :: l, i, h => by
    simp only [List.map_cons, List.cons.injEq, Prod.mk.injEq] at h
    obtain ⟨⟨h1, h2⟩, h3⟩ := h
    simp only [Instr.findAsking, assocIdx]
    rw [h1, sem_bind (hk.eql a b w), h2]
    by_cases hab : a = b
    · simp [hab, pure, Sem.run]
    · simp [hab]
      exact run_findAsking hk a w es l (i + 1) h3
  | [], _ :: _, _, h => by simp at h
  | _ :: _, [], _, h => by simp at h

theorem findNow_some {kt : TypeId} {u : TypeDesc} (hk : Key P kt f) (hu : P.underlying kt = some u) (a : α) : ∀ (es : List MapEntry) (l : List (α × Value)) (i : Nat), es.map (fun e => (e.key, e.val)) = l.map (fun p => (f p.1, p.2)) →
    ∀ x, Instr.findNow u (f a) es i = some x → x = assocIdx l a i
  | [], [], i, _, x, hx => by simp [Instr.findNow] at hx; exact hx ▸ rfl
  | e :: es, (b, v) :: l, i, h, x, hx => by
    simp only [List.map_cons, List.cons.injEq, Prod.mk.injEq] at h
    obtain ⟨⟨h1, h2⟩, h3⟩ := h
    simp only [Instr.findNow, h1] at hx
    simp only [assocIdx]
    cases hs : Instr.sameNow u (f a) (f b) with
    | none => rw [hs] at hx; cases hx
    | some y =>
      rw [hs] at hx
      have hy := hk.now a b u hu y hs
      by_cases hab : a = b
      · rw [decide_eq_true hab] at hy
        subst hy
        simp only [Option.some.injEq] at hx
        rw [if_pos hab, ← h2]; exact hx.symm
      · rw [decide_eq_false hab] at hy
        subst hy
        rw [if_neg hab]
        exact findNow_some hk hu a es l (i + 1) h3 x hx
  | [], _ :: _, _, h, _, _ => by simp at h
  | _ :: _, [], _, h, _, _ => by simp at h

theorem run_findKey {kt : TypeId} (hk : Key P kt f) {es : Array MapEntry} {l : List (α × Value)} (hm : MapR f es l) (a : α) (w : World) : (Instr.findKey kt (f a) es.toList).run P w = .ok (assocIdx l a 0) w := by
  obtain ⟨u, hu⟩ := hk.und
  unfold Instr.findKey
  rw [sem_bind (run_underlying' hu w)]
  cases hf : Instr.findNow u (f a) es.toList 0 with
  | some x =>
    have := findNow_some hk hu a es.toList l 0 hm.eq x hf
    subst this
    rfl
  | none => exact run_findAsking hk a w es.toList l 0 hm.eq

def zeroV (P : Program) (t : TypeId) : Option Value := (P.info? t).bind (·.zero)

theorem run_zeroV {t : TypeId} {z : Value} (h : zeroV P t = some z) (w : World) : (zeroValue t).run P w = .ok z w := by
  unfold zeroV at h
  cases hi : P.info? t with
  | none => rw [hi] at h; cases h
  | some i =>
    rw [hi] at h
    simp only [Option.bind_some] at h
    simp [zeroValue, typeInfo, program, bind, Sem.bind, Sem.run, pure, hi, h]

theorem run_getObj' {w : World} {b : Nat} {es : Array MapEntry} {c : Nat} (h : w.heap[b]? = some (.map es c)) : (getObj b).run P w = .ok (.map es c) w := by
  simp [getObj, Sem.run, h]

theorem run_lookup {mt kt et : TypeId} {b : Nat} {es : Array MapEntry} {c : Nat} {l : List (α × Value)} {a : α} {z : Value} {ok : Bool} {w : World} (hu : P.underlying mt = some (.map kt et)) (hk : Key P kt f) (hm : MapR f es l) (hz : zeroV P et = some z) (hb : w.heap[b]? = some (.map es c)) :
    (Instr.lookup mt (.map (some b)) (f a) ok).run P w = .ok (if ok then .tuple #[(get l a).getD z, .bool (get l a).isSome] else (get l a).getD z) w := by
  have hg := get_assoc l a 0
  have hfind := run_findKey hk hm a w
  unfold Instr.lookup
  rw [sem_bind (run_underlying' hu w)]
  simp only
  rw [sem_bind (run_getObj' hb)]
  simp only
  rw [sem_bind (a := es) (w' := w) rfl]
  rw [sem_bind (hk.chk _ a w), sem_bind hfind]
  cases hx : assocIdx l a 0 with
  | none =>
    rw [hx] at hg
    rw [← hg]
    simp only
    rw [sem_bind (run_zeroV hz w)]
    rw [sem_bind (a := (z, false)) (w' := w) rfl]
    cases ok <;> rfl
  | some p =>
    rw [hx] at hg
    rw [← hg]
    obtain ⟨j, u⟩ := p
    simp only
    rw [sem_bind (a := (u, true)) (w' := w) rfl]
    cases ok <;> rfl

theorem assocIdx_at : ∀ (l : List (α × Value)) (a : α) (i j : Nat) (v : Value), assocIdx l a i = some (j, v) → ∃ k, j = i + k ∧ l[k]? = some (a, v) ∧ ∀ u, ins l a u = l.set k (a, u) ∧ del l a = l.eraseIdx k
  | [], a, i, j, v, h => by simp [assocIdx] at h
  | (b, u) :: l, a, i, j, v, h => by
    simp only [assocIdx] at h
    by_cases hab : a = b
    · subst hab
      rw [if_pos rfl] at h
      simp only [Option.some.injEq, Prod.mk.injEq] at h
      obtain ⟨rfl, rfl⟩ := h
      exact ⟨0, rfl, rfl, fun u => ⟨by simp [ins], by simp [del]⟩⟩
    · rw [if_neg hab] at h
      obtain ⟨k, h1, h2, h3⟩ := assocIdx_at l a (i + 1) j v h
      exact ⟨k + 1, by omega, by simpa using h2, fun u => ⟨by simp [ins, hab, (h3 u).1], by simp [del, hab, (h3 u).2]⟩⟩

theorem ins_new : ∀ (l : List (α × Value)) (a : α) (i : Nat), assocIdx l a i = none → ∀ v, ins l a v = l ++ [(a, v)] ∧ del l a = l
  | [], a, i, _, v => ⟨rfl, rfl⟩
  | (b, u) :: l, a, i, h, v => by
    simp only [assocIdx] at h
    by_cases hab : a = b
    · rw [if_pos hab] at h; cases h
    · rw [if_neg hab] at h
      have := ins_new l a (i + 1) h v
      simp [ins, del, hab, this.1, this.2]

theorem run_setObj' {w : World} {b : Nat} {es : Array MapEntry} {c : Nat} (o : Obj) (h : w.heap[b]? = some (.map es c)) : (setObj b o).run P w = .ok () (w.putObj b o) := by
  simp [setObj, Sem.run, h, World.putObj]

theorem run_mapUpdate {mt kt et : TypeId} {b : Nat} {es : Array MapEntry} {c : Nat} {l : List (α × Value)} {a : α} {v : Value} {w : World} (hu : P.underlying mt = some (.map kt et)) (hk : Key P kt f) (hm : MapR f es l) (hb : w.heap[b]? = some (.map es c)) :
    ∃ es' c', (Instr.mapUpdate mt (.map (some b)) (f a) v).run P w = .ok () (w.putObj b (.map es' c')) ∧ MapR f es' (ins l a v) := by
  have hfind := run_findKey hk hm a w
  cases hx : assocIdx l a 0 with
  | none =>
    rw [hx] at hfind
    refine ⟨es.push { key := f a, val := v, born := c }, c + 1, ?_, ?_, nodup_ins hm.nd a v⟩
    · unfold Instr.mapUpdate
      rw [sem_bind (run_underlying' hu w)]
      simp only
      rw [sem_bind (run_getObj' hb)]
      simp only
      rw [sem_bind (hk.chk _ a w), sem_bind hfind]
      exact run_setObj' _ hb
    · rw [(ins_new l a 0 hx v).1]
      simp [hm.eq]
  | some p =>
    obtain ⟨j, u⟩ := p
    rw [hx] at hfind
    obtain ⟨k, hk1, hk2, hk3⟩ := assocIdx_at l a 0 j u hx
    have hj : j = k := by omega
    subst hj
    have hlen := hm.size
    have hjl : j < l.length := (List.getElem?_eq_some_iff.1 hk2).1
    have hje : j < es.size := by omega
    have hkey : es[j].key = f a := by
      have := congrArg (fun x => x[j]?) hm.eq
      simp [hje, hk2] at this
      exact this.1
    refine ⟨es.modify j fun e => { e with key := f a, val := v }, c, ?_, ?_, nodup_ins hm.nd a v⟩
    · unfold Instr.mapUpdate
      rw [sem_bind (run_underlying' hu w)]
      simp only
      rw [sem_bind (run_getObj' hb)]
      simp only
      rw [sem_bind (hk.chk _ a w), sem_bind hfind]
      simp only
      have hks : (Instr.keyThatStays (((es[j]?).map (·.key)).getD (f a)) (f a)).run P w = .ok (f a) w := by
        have e1 : ((es[j]?).map (·.key)).getD (f a) = f a := by simp [hje, hkey]
        rw [e1]
        unfold Instr.keyThatStays
        rw [if_pos (hk.same a)]
        rfl
      rw [sem_bind hks]
      exact run_setObj' _ hb
    · rw [(hk3 v).1]
      apply List.ext_getElem?
      intro i
      have := congrArg (fun x => x[i]?) hm.eq
      simp only [List.getElem?_map] at this
      simp only [List.getElem?_map, Array.getElem?_toList, Array.getElem?_modify, List.getElem?_set]
      by_cases hi : j = i
      · subst hi
        simp [hje, hjl]
      · simp only [if_neg hi]
        simpa using this

section
variable {ops : Array Oper} {K : St → World → Prop} {X : List PanicEntry → St → World → Prop} {lo : List Oper} {s : St} {w w0 : World} {M : Nat → Prop} {bl : List (Nat × Obj)}
variable {d : Nat} {ty : TypeId} {p : String} {af : Array Edge} {g : Option (Nat × Bool)}

theorem r_lookup {mt kt et : TypeId} {x ix : Operand} {b : Nat} {es : Array MapEntry} {c : Nat} {l : List (α × Value)} {z : Value} {ok : Bool} (a : α) (hu : P.underlying mt = some (.map kt et)) (hk : Key P kt f) (hm : MapR f es l) (hz : zeroV P et = some z)
    (hx : rd n s x = .map (some b)) (hix : rd n s ix = f a) (hb : w.heap[b]? = some (.map es c)) : (Oper.semAt r (rd n s) ⟨some d, .lookup mt x ix ok, ty, p, af, g⟩).run P w = .ok (.value (if ok then .tuple #[(get l a).getD z, .bool (get l a).isSome] else (get l a).getD z)) w := by
  rw [Oper.semAt_eq _ _ _ (fun c e => by cases e)]
  simp only [execOp, hx, hix]
  rw [sem_bind (run_lookup hu hk hm hz hb)]
  rfl

theorem o_lookup {mt kt et : TypeId} {x ix : Operand} {b : Nat} {es : Array MapEntry} {c : Nat} {l : List (α × Value)} {z : Value} {ok : Bool} (a : α) (hm : MapR f es l) (hb : w.heap[b]? = some (.map es c)) (hk : Key P kt f) (hw : Region.wanted ⟨some d, .lookup mt x ix ok, ty, p, af, g⟩ (yieldedE ops n s) = true) (hu : P.underlying mt = some (.map kt et)) (hz : zeroV P et = some z)
    (hx : rd n s x = .map (some b)) (hix : rd n s ix = f a) (hkk : OpsL P r n ops K X lo (s.set d (if ok then .tuple #[(get l a).getD z, .bool (get l a).isSome] else (get l a).getD z)) w) : OpsL P r n ops K X (⟨some d, .lookup mt x ix ok, ty, p, af, g⟩ :: lo) s w :=
  o_val hw (r_lookup a hu hk hm hz hx hix hb) hkk

theorem o_mapUpdate {mt kt et : TypeId} {m kx x : Operand} {b : Nat} {es : Array MapEntry} {c : Nat} {l : List (α × Value)} {v : Value} (a : α) (hl : LH w0 M w bl) (i : Nat) (hi : bl[i]? = some (b, .map es c)) (hm : MapR f es l) (hk : Key P kt f) (hw : Region.wanted ⟨none, .mapUpdate mt m kx x, ty, p, af, g⟩ (yieldedE ops n s) = true) (hu : P.underlying mt = some (.map kt et))
    (hx : rd n s m = .map (some b)) (hix : rd n s kx = f a) (hv : rd n s x = v) (hkk : ∀ w' es' c', MapR f es' (ins l a v) → LH w0 M w' (bl.set i (b, .map es' c')) → OpsL P r n ops K X lo s w') : OpsL P r n ops K X (⟨none, .mapUpdate mt m kx x, ty, p, af, g⟩ :: lo) s w := by
  obtain ⟨es', c', hr, hm'⟩ := run_mapUpdate (P := P) (a := a) (v := v) hu hk hm (hl.get i hi)
  refine o_unit (w' := w.putObj b (.map es' c')) hw ?_ (hkk _ es' c' hm' (hl.put i hi ⟨rfl, rfl, rfl⟩))
  rw [Oper.semAt_eq _ _ _ (fun c e => by cases e)]
  simp only [execOp, hx, hix, hv]
  rw [sem_bind hr]
  rfl

theorem o_makeMap {t : TypeId} (hl : LH w0 M w bl) (hw : Region.wanted ⟨some d, .makeMap t none, ty, p, af, g⟩ (yieldedE ops n s) = true)
    (hk : ∀ b w', w0.heap.size ≤ b → LH w0 M w' ((b, .map #[] 0) :: bl) → OpsL P r n ops K X lo (s.set d (.map (some b))) w') : OpsL P r n ops K X (⟨some d, .makeMap t none, ty, p, af, g⟩ :: lo) s w := by
  refine o_val (w' := { w with heap := w.heap.push (.map #[] 0) }) hw ?_ (hk w.heap.size _ hl.upd.size (hl.alloc _))
  rw [Oper.semAt_eq _ _ _ (fun c e => by cases e)]
  simp only [execOp, Option.map_none]
  rfl

theorem r_lenm {at_ : Array TypeId} {x : Operand} {kt et : TypeId} {b : Nat} {es : Array MapEntry} {c : Nat} {l : List (α × Value)} (hm : MapR f es l) (hb : w.heap[b]? = some (.map es c)) (hu : (at_[0]?).bind P.underlying = some (.map kt et)) (hx : rd n s x = .map (some b)) :
    (Oper.semAt r (rd n s) ⟨some d, .call ⟨.builtin .len, #[x], at_⟩, ty, p, af, g⟩).run P w = .ok (.value (.int .i64 (l.length : Int))) w := by
  rw [Oper.semAt_eq _ _ _ (fun c e => by cases e)]
  cases ha : at_[0]? with
  | none => rw [ha] at hu; cases hu
  | some t =>
    rw [ha] at hu
    simp only [Option.bind_some] at hu
    simp only [execOp, resolve, List.map_toArray, List.map_cons, List.map_nil, hx]
    rw [sem_bind (w' := w) rfl]
    simp only [invoke, builtin, Builtin.len_, ha]
    have h2 : (do
        let .map entries _ ← getObj b | stuck "len: map expected"
        pure (goInt entries.size) : Sem Value).run P w = .ok (goInt (l.length : Int)) w := by
      rw [sem_bind (run_getObj' hb)]
      simp [pure, Sem.run, hm.size]
    rw [sem_bind (a := goInt (l.length : Int)) (w' := w)]
    · rfl
    · show ((underlying t) >>= _).run P w = _
      rw [sem_bind (run_underlying' hu w)]
      exact h2

theorem o_lenm {at_ : Array TypeId} {x : Operand} {kt et : TypeId} {b : Nat} {es : Array MapEntry} {c : Nat} {l : List (α × Value)} (hm : MapR f es l) (hb : w.heap[b]? = some (.map es c)) (hw : Region.wanted ⟨some d, .call ⟨.builtin .len, #[x], at_⟩, ty, p, af, g⟩ (yieldedE ops n s) = true) (hu : (at_[0]?).bind P.underlying = some (.map kt et)) (hx : rd n s x = .map (some b))
    (hkk : OpsL P r n ops K X lo (s.set d (.int .i64 (l.length : Int))) w) : OpsL P r n ops K X (⟨some d, .call ⟨.builtin .len, #[x], at_⟩, ty, p, af, g⟩ :: lo) s w :=
  o_val hw (r_lenm hm hb hu hx) hkk

end
end

/-! ### Keys -/

theorem key_str {kt : TypeId} (hu : P.underlying kt = some .string) : Key P kt str := by
  refine ⟨fun e a w => ?_, fun a b w => ?_, fun a b u hu' x hx => ?_, fun a => ?_, ⟨_, hu⟩⟩
  · rw [str_eq]
    show (Instr.checkKey e (9999 + 1) kt _).run P w = _
    unfold Instr.checkKey
    rw [sem_bind (run_underlying' hu w)]
    rfl
  · exact (Sc.str hu).run 9999 w
  · rw [hu] at hu'
    cases hu'
    simp only [str_eq, Instr.sameNow, Option.some.injEq] at hx
    rw [← hx, beq_toListBytes, toList_mk, toList_mk]
    by_cases h : a = b <;> simp [h]
  · rw [str_eq]
    show ((⟨a.toArray⟩ : ByteArray) == ⟨a.toArray⟩) = true
    rw [beq_toListBytes]
    simp
end Go.Pd

namespace Go.Pd
variable {P : Program}

end Go.Pd

/-
  Pointers and slices against nil; empty literals; append of whatever slice.
-/
set_option linter.unusedSimpArgs false
set_option linter.unnecessarySimpa false
set_option maxRecDepth 10000
set_option linter.unusedVariables false
namespace Go.Pd
variable {P : Program} {r : Option Nat} {n : Nat}

theorem run_equalS {t e : TypeId} {a : Option Addr} {m c : Nat} (hu : P.underlying t = some (.slice e)) (w : World) : (Op.equal t (.slice a m c) (.slice none 0 0)).run P w = .ok a.isNone w := by
  have h9 : Op.equal t (.slice a m c) (.slice none 0 0) = Op.equalIn (9999 + 1) t (.slice a m c) (.slice none 0 0) := rfl
  rw [h9, Op.equalIn, sem_bind (run_underlying' hu w)]
  cases a <;> rfl

section
variable {s : St} {w : World} {d : Nat} {ty : TypeId} {p : String} {af : Array Edge} {g : Option (Nat × Bool)}

theorem r_nil {bo : BinOp} {v : Value} {xt yt : TypeId} {x y : Operand} {b : Bool} (hb : bo = .eql ∨ bo = .neq) {u : Value} (hx : rd n s x = v) (hy : rd n s y = u) (hp : (∃ a, v = .pointer a) ∨ ∃ a m c, v = .slice a m c) (he : (Op.equal xt v u).run P w = .ok b w) :
    (Oper.semAt r (rd n s) ⟨some d, .binOp bo xt x y yt, ty, p, af, g⟩).run P w = .ok (.value (.bool (if bo = .eql then b else !b))) w := by
  rw [Oper.semAt_eq _ _ _ (fun c e => by cases e)]
  have h1 : (eqGuard bo xt x y v u).run P w = .ok () w := by
    rcases hb with rfl | rfl <;> rcases hp with ⟨a, rfl⟩ | ⟨a, m, c, rfl⟩ <;> rfl
  have h2 : (binOp bo xt v u).run P w = .ok (.bool (if bo = .eql then b else !b)) w := by
    rcases hb with rfl | rfl
    · have : binOp .eql xt v u = (do pure (Value.bool (← Op.equal xt v u)) : Sem Value) := by
        rcases hp with ⟨a, rfl⟩ | ⟨a, m, c, rfl⟩ <;> rfl
      rw [this, sem_bind he]
      rfl
    · have : binOp .neq xt v u = (do pure (Value.bool (!(← Op.equal xt v u))) : Sem Value) := by
        rcases hp with ⟨a, rfl⟩ | ⟨a, m, c, rfl⟩ <;> rfl
      rw [this, sem_bind he]
      rfl
  simp only [execOp, hx, hy]
  have h3 : (do eqGuard bo xt x y v u; binOp bo xt v u : Sem Value).run P w = .ok (.bool (if bo = .eql then b else !b)) w := by
    rw [sem_bind h1]; exact h2
  rw [sem_bind h3]
  rfl

theorem r_seq {xt yt e : TypeId} {x y : Operand} {a : Option Addr} {m c : Nat} (hx : rd n s x = .slice a m c) (hy : rd n s y = .slice none 0 0) (hu : P.underlying xt = some (.slice e)) :
    (Oper.semAt r (rd n s) ⟨some d, .binOp .eql xt x y yt, ty, p, af, g⟩).run P w = .ok (.value (.bool a.isNone)) w := r_nil (.inl rfl) hx hy (.inr ⟨_, _, _, rfl⟩) (run_equalS hu w)
variable {ops : Array Oper} {K : St → World → Prop} {X : List PanicEntry → St → World → Prop} {l : List Oper} {w0 : World} {M : Nat → Prop} {bl : List (Nat × Obj)}

theorem o_seq {xt yt e : TypeId} {x y : Operand} {a : Option Addr} {m c : Nat} (hw : Region.wanted ⟨some d, .binOp .eql xt x y yt, ty, p, af, g⟩ (yieldedE ops n s) = true) (hx : rd n s x = .slice a m c) (hy : rd n s y = .slice none 0 0) (hu : P.underlying xt = some (.slice e))
    (hk : OpsL P r n ops K X l (s.set d (.bool a.isNone)) w) : OpsL P r n ops K X (⟨some d, .binOp .eql xt x y yt, ty, p, af, g⟩ :: l) s w := o_pur hw (fun w => r_seq hx hy hu) hk
theorem o_buildSlice0 {t e k : Nat} (hl : LH w0 M w bl) (hw : Region.wanted ⟨some d, .buildSlice t 0 #[], ty, p, af, g⟩ (yieldedE ops n s) = true) (hu : P.underlying t = some (.slice e)) (hs : sizeT P e = some k)
    (hk : ∀ b w', w0.heap.size ≤ b → LH w0 M w' ((b, .cells #[] e (0, 0)) :: bl) → OpsL P r n ops K X l (s.set d (.slice (some ⟨b, 0, none⟩) 0 0)) w') : OpsL P r n ops K X (⟨some d, .buildSlice t 0 #[], ty, p, af, g⟩ :: l) s w := by
  refine o_val (w' := { w with heap := w.heap.push (.cells #[] e) }) hw ?_ (hk w.heap.size _ hl.upd.size (hl.alloc _))
  rw [Oper.semAt_eq _ _ _ (fun c e => by cases e)]
  simp only [execOp]
  rw [sem_bind (a := .slice (some ⟨w.heap.size, 0, none⟩) 0 0) (w' := { w with heap := w.heap.push (.cells #[] e) })]
  · rfl
  · unfold Instr.buildSlice
    rw [sem_bind (run_underlying' hu w)]
    simp only
    rw [sem_bind (run_sizeT hs w)]
    simp [newRow, newObj, Instr.fill, bind, Sem.bind, Sem.run, pure]
    have e0 : Array.range 0 = #[] := by apply Array.ext'; simp
    rw [e0, Array.map_empty]

theorem Acc.empty (k : Nat) (E : TypeId) (b : Nat) : Acc (.slice (some ⟨b, 0, none⟩) 0 0) k E 0 [] [(b, .cells #[] E (0, 0))] :=
  ⟨by simp, .inr ⟨b, 0, #[], rfl, rfl, Nat.le_refl _, Nat.zero_le _, by simp, by simp⟩⟩

theorem run_append0 {t ty' E k : TypeId} {base a : Option Addr} {m cap c : Nat} (ht : P.underlying t = some (.slice E)) (hs : sizeT P E = some k) (hm : m ≤ cap) (w : World) :
    (Builtin.append_ #[t, t] ty' #[.slice base m cap, .slice a 0 c]).run P w = .ok (.slice base m cap) w := by
  unfold Builtin.append_
  have h0 : (#[t, t] : Array TypeId)[0]? = some t := rfl
  have h1 : (#[t, t] : Array TypeId)[1]? = some t := rfl
  have h2 : (#[Value.slice base m cap, .slice a 0 c] : Array Value)[0]? = some (.slice base m cap) := rfl
  have h3 : (#[Value.slice base m cap, .slice a 0 c] : Array Value)[1]? = some (.slice a 0 c) := rfl
  simp only [h0, h1, h2, h3]
  rw [sem_bind (run_underlying' ht w)]
  simp only
  rw [sem_bind (run_sizeT hs w)]
  rw [sem_bind (run_underlying' ht w)]
  simp only
  rw [sem_bind (a := false) (w' := w) rfl]
  simp only [Bool.false_eq_true, if_false]
  rw [sem_bind (a := 0) (w' := w) rfl]
  have hfc : (Builtin.firstCells k 0 (.slice a 0 c)).run P w = .ok #[] w := by
    cases a with
    | none => rfl
    | some a => simp [Builtin.firstCells, loadCells, loadCellsFrom, pure, Sem.run]
  simp only [Nat.add_zero, if_pos hm, Bool.not_false, if_true]
  rw [sem_bind hfc]
  cases base with
  | none => rfl
  | some b => rfl

theorem o_appendS {t E k bytes m q : Nat} {x y : Operand} {v yv : Value} {xs us : List Value} {bl' acc : List (Nat × Obj)} (hl : LH w0 M w (bl' ++ acc)) (ha : Acc v k E m xs acc) (hu : Sl w yv k us) (hul : us.length = q * k) (hk0 : 0 < k) (h1 : us.all Value.oneCell' = true)
    (hb : (m + q) * bytes ≤ 140737488355328) (hm : m + q ≤ 9223372036854775807) (hw : Region.wanted ⟨some d, .call ⟨.builtin .append, #[x, y], #[t, t]⟩, ty, p, af, g⟩ (yieldedE ops n s) = true) (ht : P.underlying t = some (.slice E)) (hi : infoT P E = some (k, bytes, k)) (hs : sizeT P E = some k)
    (hx : rd n s x = v) (hy : rd n s y = yv)
    (hk : ∀ v' w' acc', LH w0 M w' (bl' ++ acc') → Acc v' k E (m + q) (xs ++ us) acc' → OpsL P r n ops K X l (s.set d v') w') : OpsL P r n ops K X (⟨some d, .call ⟨.builtin .append, #[x, y], #[t, t]⟩, ty, p, af, g⟩ :: l) s w := by
  by_cases hq : 0 < q
  · obtain ⟨b, o, c, rfl, -, hrow⟩ := hu.ne hul hk0 hq
    exact o_append hl ha hrow hul h1 hq hb hm hw ht hi hx hy hk
  · have hq0 : q = 0 := by omega
    subst hq0
    have hus : us = [] := List.eq_nil_of_length_eq_zero (by simpa using hul)
    subst hus
    obtain ⟨a, c, rfl, -⟩ := hu.shape hul hk0
    obtain ⟨base, cap, rfl⟩ := ha.shape
    have hcap : m ≤ cap := by
      rcases ha.2 with ⟨h, h2, -⟩ | ⟨b', cap', cur, h, -, h3, -⟩
      · omega
      · cases h; exact h3
    refine o_val (w' := w) hw ?_ (hk _ w acc hl (by rw [List.append_nil]; exact ha))
    rw [Oper.semAt_eq _ _ _ (fun c e => by cases e)]
    simp only [execOp, resolve, List.map_toArray, List.map_cons, List.map_nil, hx, hy]
    rw [sem_bind (w' := w) rfl]
    simp only [invoke, builtin]
    rw [sem_bind (run_append0 ht hs hcap w)]
    rfl
end
end Go.Pd

/-
  Comparisons of two truth values.
-/
set_option linter.unusedVariables false
set_option linter.unusedSimpArgs false
set_option linter.unnecessarySimpa false
set_option maxRecDepth 10000
namespace Go.Pd
open Go
variable {P : Program} {r : Option Nat} {n : Nat}
variable {s : St} {w : World} {d : Nat} {ty : TypeId} {p : String} {af : Array Edge} {g : Option (Nat × Bool)}

variable {ops : Array Oper} {K : St → World → Prop} {X : List PanicEntry → St → World → Prop} {l : List Oper}

end Go.Pd

/-
  Regions that draw their order, by stages: some operations, in a forced order, turn the world; every other one answers alike in each stage in which it may come.
-/
set_option linter.unusedSimpArgs false
set_option linter.unnecessarySimpa false
set_option maxRecDepth 10000
set_option linter.unusedVariables false
namespace Go.Pd
variable {P : Program} {r : Option Nat} {n : Nat}
section
variable {ops : Array Oper} {H T : List Nat} {K : St → World → Prop} {X : List PanicEntry → St → World → Prop} {C : Nat → World → Prop}

end

section
variable {ops : Array Oper} {T : List Nat} {C : Nat → World → Prop} {K : St → Prop} {i : Nat} {l : List Nat} {s : St} {k : Nat} {op : Op} {ty : TypeId} {p : String} {af : Array Edge} {g : Option (Nat × Bool)}

end
end Go.Pd

/-
  Regions that draw their order, with operations that turn the world in whatever order their edges let: a tree of the ways.
-/
set_option linter.unusedSimpArgs false
set_option linter.unnecessarySimpa false
set_option maxRecDepth 10000
set_option linter.unusedVariables false
namespace Go.Pd
variable {P : Program} {r : Option Nat} {n : Nat}
section
variable {ops : Array Oper} {H E T B : List Nat} {K : St → World → Prop} {X : List PanicEntry → St → World → Prop} {C C2 : World → Prop}

theorem nodup_le : ∀ {l m : List Nat}, l.Nodup → (∀ x ∈ l, x ∈ m) → l.length ≤ m.length
  | [], m, _, _ => by simp
  | a :: l, m, hn, hs => by
    obtain ⟨h1, h2⟩ := List.nodup_cons.1 hn
    have ha := hs a List.mem_cons_self
    have := nodup_le (m := m.erase a) h2 fun x hx => (List.mem_erase_of_ne (a := x) (b := a) (fun e => h1 (by rw [← e]; exact hx))).2 (hs x (List.mem_cons_of_mem _ hx))
    rw [List.length_erase_of_mem ha] at this
    have := List.length_pos_of_mem ha
    simp
    omega

def avail (ops : Array Oper) (T D : List Nat) : List Nat := T.filter fun t => !D.contains t && T.all fun u => !(anc ops ops.size t u) || D.contains u

def OpsT (P : Program) (r : Option Nat) (n : Nat) (ops : Array Oper) (E T : List Nat) (C2 : World → Prop) (K : St → World → Prop) (X : List PanicEntry → St → World → Prop) : Nat → List Nat → St → World → Prop
  | 0, _, s, w => K s w
  | g + 1, D, s, w => ∀ i ∈ avail ops T D,
    match ops[i]? with
    | none => False
    | some o =>
      if Region.wanted o (yieldedE ops n s) then OpW P r n o s w (fun s' w' => (C2 w' ∨ E.all (fun e => (i :: D).any fun t => anc ops ops.size t e) = true) ∧ OpsT P r n ops E T C2 K X g (i :: D) s' w') (fun ch w' => X ch s w')
      else OpsT P r n ops E T C2 K X g (i :: D) (s.put o.dst undef) w

structure Inv4 (P : Program) (r : Option Nat) (n : Nat) (ops : Array Oper) (H T E : List Nat) (K : St → World → Prop) (X : List PanicEntry → St → World → Prop) (C C2 : World → Prop) (sT : St) (listed : Array Bool) (s : St) (w : World) : Prop where
  sz : listed.size = ops.size
  dc : ∀ i o, listed.getD i false = true → ops[i]? = some o → ∀ e ∈ o.after, Region.binds .any e = true → listed.getD e.on false = true
  hb : ∀ j ∈ H, listed.getD j false = true → ∀ d, dstOf ops j = some d → s.t d = sT.t d
  hc : ∀ t, (∀ j, dstOf ops j ≠ some t) → s.t t = sT.t t
  ht : ∃ D g, g + D.length = T.length ∧ D.Nodup ∧ (∀ j ∈ D, j ∈ T) ∧ (∀ j ∈ T, listed.getD j false = true ↔ j ∈ D) ∧
    ((D = [] ∧ C w ∧ fill ops H sT s = sT) ∨ (D ≠ [] ∧ (C2 w ∨ ∀ e ∈ E, listed.getD e false = true) ∧ OpsT P r n ops E T C2 K X g D (fill ops H sT s) w))

structure TreeFacts (ops : Array Oper) (H E T B EB : List Nat) : Prop where
  head : ∀ h ∈ H, ((∃ o : Oper, ops[h]? = some o ∧ isPur o.op = true) ∨ E.contains h = true) ∨ ∀ t ∈ T, anc ops ops.size t h = true
  post : ∀ b ∈ B, ∀ t ∈ T, anc ops ops.size b t = true
  pure : ∀ b ∈ B, (∃ o : Oper, ops[b]? = some o ∧ isPur o.op = true) ∨ EB.contains b = true
  ne : T ≠ []

theorem inv_tree {EB : List Nat} (F : RegFacts ops (H ++ T ++ B) [] []) (G : TreeFacts ops H E T B EB) (hTn : T.Nodup) (hX : ∀ c s s' w, X c s w → X c s' w) {sT : St} (hfact : ∀ i ∈ H, FactAt P r n ops E C C2 sT i) (hCC : ∀ w, C w → C2 w) (hT : ∀ w, C w → OpsT P r n ops E T C2 (PostQ P r n ops EB B K) X T.length [] sT w) : ∀ (f : Nat) (listed : Array Bool) (s : St) (w : World),
    unl ops listed ≤ f → Inv4 P r n ops H T E (PostQ P r n ops EB B K) X C C2 sT listed s w → (∃ t ∈ T, listed.getD t false = false) → AnyO P r n ops K X f listed s w := by
  have data : ∀ l1 i l2, H ++ T = l1 ++ i :: l2 → i ∉ l1 ∧ ∀ t j, Look ops i t → dstOf ops j = some t → j ∈ l1 ∧ edge ops i j = true := fun l1 i l2 h => F.data l1 i (l2 ++ B) (by rw [List.append_nil, h]; simp)
  have cover : ∀ i, i < ops.size → i ∈ H ∨ i ∈ T ∨ i ∈ B := fun i hi => by
    rcases F.cover i hi with h | h
    · rcases List.mem_append.1 h with h | h
      · rcases List.mem_append.1 h with h | h
        · exact .inl h
        · exact .inr (.inl h)
      · exact .inr (.inr h)
    · cases h
  have lt : ∀ i ∈ H ++ T, i < ops.size := fun i hi => F.lt i (by rw [List.append_nil]; exact List.mem_append_left _ hi)
  intro f
  induction f with
  | zero =>
    intro listed s w hu hI hne
    have hall : ∀ i, i < ops.size → listed.getD i false = true := fun i hi => by
      by_cases hl : listed.getD i false = true
      · exact hl
      · exfalso
        have : i ∈ (List.range ops.size).filter fun i => !listed.getD i false := by
          rw [List.mem_filter]; exact ⟨List.mem_range.2 hi, by simpa using hl⟩
        have := List.length_pos_of_mem this
        unfold unl at hu
        omega
    exfalso
    obtain ⟨t, ht, hl⟩ := hne
    have := hall t (lt t (List.mem_append_right _ ht))
    rw [hl] at this
    cases this
  | succ f ih =>
    intro listed s w hu hI hne
    refine ⟨fun hr => ?_, fun i hir => ?_⟩
    · exfalso
      obtain ⟨t, ht, hl⟩ := hne
      have := done_all F hI.sz hr t (lt t (List.mem_append_right _ ht))
      rw [hl] at this
      cases this
    rw [mem_ready] at hir
    obtain ⟨h0, o, ho, hpre⟩ := hir
    have hi : i < ops.size := (Array.getElem?_eq_some_iff.1 ho).1
    have hil : i < listed.size := by rw [hI.sz]; exact hi
    rw [getD_flip hil] at h0
    have hset : ∀ j, (listed.setIfInBounds i true).getD j false = if j = i then true else listed.getD j false := fun j => by
      by_cases hj : j = i
      · subst hj; simp [Array.getD, hil]
      · rw [if_neg hj, getD_set_ne false (Ne.symm hj)]
    have hpre' : ∀ o', ops[i]? = some o' → ∀ e ∈ o'.after, Region.binds .any e = true → listed.getD e.on false = true := fun o' ho' => by
      rw [ho] at ho'; cases ho'; exact hpre
    have hu' : unl ops (listed.setIfInBounds i true) ≤ f := by
      have := filter_lt (fun j => !listed.getD j false) (fun j => !(listed.setIfInBounds i true).getD j false) i (fun x hx => by
        simp only [hset] at hx
        by_cases hxi : x = i
        · subst hxi; simp at hx
        · simpa [hxi] using hx) (by simp [h0]) (by simp [hset]) (List.range ops.size) (List.mem_range.2 hi)
      unfold unl at hu ⊢
      omega
    have hdc' : ∀ j o', (listed.setIfInBounds i true).getD j false = true → ops[j]? = some o' → ∀ e ∈ o'.after, Region.binds .any e = true → (listed.setIfInBounds i true).getD e.on false = true := fun j o' hj ho' e he hb => by
      rw [hset] at hj ⊢
      by_cases hji : j = i
      · subst hji
        have := hpre' o' ho' e he hb
        simp [this]
      · rw [if_neg hji] at hj
        have := hI.dc j o' hj ho' e he hb
        simp [this]
    have hdst : dstOf ops i = o.dst := by simp [dstOf, ho]
    obtain ⟨D, g, hg, hDn, hDT, hDl, h3⟩ := hI.ht
    rcases cover i hi with hH | hTm | hB
    · -- a head
      have hiT : i ∉ T := fun hm => by
        obtain ⟨m1, m2, rfl⟩ := List.append_of_mem hm
        have := (data (H ++ m1) i m2 (by simp)).1
        simp at this
        exact this.1 hH
      -- what it looks at is as at the end
      have hlook : ∀ t ∈ o.looksAt ops, sT.t t = s.t t := fun t ht => by
        by_cases hx : ∃ j, dstOf ops j = some t
        · obtain ⟨j, hj⟩ := hx
          obtain ⟨l1, l2, hl⟩ := List.append_of_mem (List.mem_append_left T hH)
          obtain ⟨hjl, hje⟩ := (data l1 i l2 hl).2 t j ⟨o, ho, ht⟩ hj
          obtain ⟨e, he, hb, hon⟩ := edge_on hje ho
          have hlj : listed.getD j false = true := by rw [← hon]; exact hpre e he hb
          -- j is a head
          have hjH : j ∈ H := by
            obtain ⟨m1, m2, hm⟩ := List.append_of_mem hH
            have hl' : H ++ T = m1 ++ i :: (m2 ++ T) := by rw [hm]; simp
            have hjm1 := ((data m1 i (m2 ++ T) hl').2 t j ⟨o, ho, ht⟩ hj).1
            rw [hm]
            exact List.mem_append_left _ hjm1
          exact (hI.hb j hjH hlj t hj).symm
        · exact (hI.hc t fun j hj => hx ⟨j, hj⟩).symm
      obtain ⟨o', ho', hf⟩ := hfact i hH
      rw [ho] at ho'; cases ho'
      have hsem : o.semAt r (rd n sT) = o.semAt r (rd n s) := semAt_congr ops (F.plain i o ho) hlook
      have hwn : Region.wanted o (yieldedE ops n sT) = Region.wanted o (yieldedE ops n s) := wanted_congr ops hlook
      have hfillH : ∀ v, fill ops H sT (s.put o.dst v) = fill ops H sT s := fun v => fill_put_head fun t ht => ⟨i, hH, by rw [hdst, ht]⟩
      -- how it goes on
      have hnext : ∀ v w', (∀ d, o.dst = some d → sT.t d = v) → ((D = [] ∧ C w') ∨ (D ≠ [] ∧ w' = w)) → AnyO P r n ops K X f (listed.setIfInBounds i true) (s.put o.dst v) w' := fun v w' hv hw' => by
        refine ih _ _ _ hu' ⟨by simpa using hI.sz, hdc', fun j hj hl d hd => ?_, fun t ht => ?_, D, g, hg, hDn, hDT, fun j hj => ?_, ?_⟩ (by
          obtain ⟨t, ht, hl⟩ := hne
          exact ⟨t, ht, by rw [hset, if_neg (fun e => by subst e; exact hiT ht)]; exact hl⟩)
        · rw [hset] at hl
          by_cases hji : j = i
          · subst hji
            rw [hdst] at hd
            rw [hd, put_some, St.set_t, if_pos rfl]
            exact (hv d hd).symm
          · rw [if_neg hji] at hl
            rw [put_t]
            · exact hI.hb j hj hl d hd
            · intro e
              exact F.dist j i d hji hd (by rw [hdst, e])
        · rw [put_t]
          · exact hI.hc t ht
          · intro e
            exact ht i (by rw [hdst, e])
        · rw [hset, if_neg (fun (e : j = i) => hiT (e ▸ hj))]
          exact hDl j hj
        · rw [hfillH]
          rcases h3 with ⟨ha, hb, hc⟩ | ⟨ha, hb⟩
          · rcases hw' with ⟨_, hC⟩ | ⟨h', _⟩
            · exact .inl ⟨ha, hC, hc⟩
            · exact absurd ha h'
          · rcases hw' with ⟨h', _⟩ | ⟨_, rfl⟩
            · exact absurd h' ha
            · exact .inr ⟨ha, hb.1.imp id fun h e he => by rw [hset]; simp [h e he], hb.2⟩
      show Op1 P r n ops _ X i s w
      unfold Op1
      simp only [ho]
      rcases hf with ⟨hwt, v, hv, hdv⟩ | ⟨hwf, hdv⟩
      · rw [← hwn, if_pos hwt]
        unfold OpW
        rw [← hsem]
        rcases h3 with ⟨ha, hC, hc⟩ | ⟨ha, hb⟩
        · have hy : Yld P r n C o sT v := by
            split at hv
            · exact Pur.yld hv
            · split at hv
              · exact LdY.yld hCC hv
              · exact hv
          have hyw := hy w hC
          revert hyw
          cases (o.semAt r (rd n sT)).run P w with
          | ok m w' =>
            cases m <;> simp only
            case value u =>
              rintro ⟨rfl, hC'⟩
              exact hnext _ w' hdv (.inl ⟨ha, hC'⟩)
            case enter fn args =>
              intro hcall
              refine hcall.mono fun e w'' ⟨he, hC'⟩ => ?_
              subst he
              exact hnext _ w'' hdv (.inl ⟨ha, hC'⟩)
            all_goals exact fun h => h.elim
          | halt x w' => simp only; exact fun h => h.elim
        · -- behind the first of the tail: it is pure, or a late load
          have hp : isPur o.op = true ∨ E.contains i = true := by
            cases hD : D with
            | nil => exact absurd hD ha
            | cons t l =>
              have htD : t ∈ D := by rw [hD]; exact List.mem_cons_self
              rcases G.head i hH with (⟨o', ho', hp⟩ | hE) | hanc
              · rw [ho] at ho'; cases ho'; exact .inl hp
              · exact .inr hE
              · exfalso
                have hlt := (hDl t (hDT t htD)).2 htD
                have := anc_listed hI.dc ops.size t i (hanc t (hDT t htD)) (fun o' ho' e he hb => hI.dc t o' hlt ho' e he hb)
                rw [h0] at this
                cases this
          have hrun : (o.semAt r (rd n sT)).run P w = .ok (.value v) w := by
            by_cases hp1 : isPur o.op = true
            · rw [if_pos hp1] at hv; exact hv w
            · rw [if_neg hp1, if_pos (hp.resolve_left hp1)] at hv
              rcases hb.1 with hc2 | hall
              · exact hv w hc2
              · exfalso
                have := hall i (by simpa using hp.resolve_left hp1)
                rw [h0] at this
                cases this
          rw [hrun]
          exact hnext _ w hdv (.inr ⟨ha, rfl⟩)
      · rw [← hwn, if_neg (by simp [hwf])]
        refine hnext undef w hdv ?_
        rcases h3 with ⟨ha, hC, hc⟩ | ⟨ha, hb⟩
        · exact .inl ⟨ha, hC⟩
        · exact .inr ⟨ha, rfl⟩
    · -- one of the tail: it is the next
      have hiH : i ∉ H := fun hm => by
        obtain ⟨m1, m2, hk⟩ := List.append_of_mem hTm
        have := (data (H ++ m1) i m2 (by rw [hk]; simp)).1
        simp at this
        exact this.1 hm
      have hiD : i ∉ D := fun h => by
        have := (hDl i hTm).2 h
        rw [h0] at this
        cases this
      have hav : i ∈ avail ops T D := by
        unfold avail
        rw [List.mem_filter]
        refine ⟨hTm, ?_⟩
        simp only [Bool.and_eq_true, Bool.not_eq_true', List.all_eq_true, Bool.or_eq_true]
        refine ⟨by simpa using hiD, fun u hu => ?_⟩
        cases ha : anc ops ops.size i u
        · exact .inl rfl
        · exact .inr (by simpa using (hDl u hu).1 (anc_listed hI.dc ops.size i u ha hpre'))
      obtain ⟨g', rfl⟩ : ∃ g', g = g' + 1 := by
        cases g with
        | zero =>
          exfalso
          have h5 : (i :: D).length ≤ T.length := nodup_le (List.nodup_cons.2 ⟨hiD, hDn⟩) (fun x hx => by
            rcases List.mem_cons.1 hx with rfl | hx
            · exact hTm
            · exact hDT x hx)
          simp at h5
          omega
        | succ g' => exact ⟨g', rfl⟩
      have hC2w : C2 w ∨ ∀ e ∈ E, listed.getD e false = true := by
        rcases h3 with ⟨_, hC, _⟩ | ⟨_, hb, _⟩
        · exact .inl (hCC w hC)
        · exact hb
      have hC2n : ∀ w', (C2 w' ∨ E.all (fun e => (i :: D).any fun t => anc ops ops.size t e) = true) → C2 w' ∨ ∀ e ∈ E, listed.getD e false = true := fun w' h =>
        h.imp id fun h e he => by
          obtain ⟨t, ht, ha⟩ := List.any_eq_true.1 (List.all_eq_true.1 h e he)
          rcases List.mem_cons.1 ht with rfl | ht
          · exact anc_listed hI.dc ops.size t e ha hpre'
          · exact anc_listed hI.dc ops.size t e ha (fun o' ho' x hx hb => hI.dc t o' ((hDl t (hDT t ht)).2 ht) ho' x hx hb)
      have hops : OpsT P r n ops E T C2 (PostQ P r n ops EB B K) X (g' + 1) D (fill ops H sT s) w := by
        rcases h3 with ⟨rfl, hC, hc⟩ | ⟨_, _, hb⟩
        · rw [hc]
          have := hT w hC
          rw [← hg] at this
          simpa using this
        · exact hb
      have hops := hops i hav
      simp only [ho] at hops
      have hnd : ∀ t, o.dst = some t → ¬ ∃ j ∈ H, dstOf ops j = some t := fun t ht ⟨j, hj, hd⟩ => by
        have hne : j ≠ i := fun e => hiH (e ▸ hj)
        exact F.dist j i t hne hd (by rw [hdst, ht])
      have hlook : ∀ t ∈ o.looksAt ops, (fill ops H sT s).t t = s.t t := fun t ht => by
        refine fill_t fun j hj hd => ?_
        obtain ⟨l1, l2, hl⟩ := List.append_of_mem (List.mem_append_right H hTm)
        obtain ⟨_, hje⟩ := (data l1 i l2 hl).2 t j ⟨o, ho, ht⟩ hd
        obtain ⟨e, he, hb, hon⟩ := edge_on hje ho
        exact hI.hb j hj (by rw [← hon]; exact hpre e he hb) t hd
      -- behind the tail: the followers and what is left of the heads
      have phase2 : ∀ (s' : St) w', (∀ t, o.dst ≠ some t → s'.t t = s.t t) → (∀ t ∈ T, t ∈ i :: D) → (C2 w' ∨ ∀ e ∈ E, listed.getD e false = true) → PostQ P r n ops EB B K (fill ops H sT s') w' → AnyO P r n ops K X f (listed.setIfInBounds i true) s' w' := fun s' w' hs' hT2' hc2w' ho' => by
        have hsplit : H ++ T ++ B = (H ++ T) ++ B := rfl
        have hF2 : RegFacts ops (H ++ T ++ B) EB [] := ⟨F.lt, F.cover, F.plain, F.back, F.dist, F.data, F.tail, fun h hh t l ht => nomatch ht⟩
        obtain ⟨sF, hk, hs1, hd1, hfB⟩ := opsQ_facts hF2 B (H ++ T) rfl _ ho'
        have hBn : ∀ j ∈ H ++ T, ∀ d, dstOf ops j = some d → ∀ b ∈ B, dstOf ops b ≠ some d := fun j hj d hd b hb => by
          refine F.dist j b d ?_ hd
          rintro rfl
          obtain ⟨m1, m2, rfl⟩ := List.append_of_mem hb
          have := (F.data (H ++ T ++ m1) j m2 (by simp)).1
          exact this (List.mem_append_left _ hj)
        have hTn : ∀ j ∈ T, ∀ d, dstOf ops j = some d → (fill ops H sT s').t d = s'.t d := fun j hj d hd => by
          refine fill_t fun q hq hqd => ?_
          exfalso
          have hqj : q ≠ j := by
            rintro rfl
            obtain ⟨m1, m2, hm⟩ := List.append_of_mem hj
            have := (data (H ++ m1) q m2 (by rw [hm]; simp)).1
            simp at this
            exact this.1 hq
          exact F.dist q j d hqj hqd hd
        have hHf : ∀ j ∈ H, ∀ d, dstOf ops j = some d → (fill ops H sT s').t d = sT.t d := fun j hj d hd => by
          simp only [fill]
          rw [if_pos ⟨j, hj, hd⟩]
        have hs'H : ∀ j ∈ H, listed.getD j false = true → ∀ d, dstOf ops j = some d → s'.t d = sT.t d := fun j hj hl d hd => by
          rw [hs' d (fun e => hnd d e ⟨j, hj, hd⟩)]
          exact hI.hb j hj hl d hd
        refine inv_heads hF2 hk f _ s' hu' ⟨by simpa using hI.sz, hdc', fun j hj hl d hd => ?_, fun t ht => ?_, ?_, fun j hj hl => ?_⟩
        · rw [hset] at hl
          rcases List.mem_append.1 hj with hj | hj
          · rw [hs1 d (hBn j hj d hd)]
            rcases List.mem_append.1 hj with hj | hj
            · rw [hHf j hj d hd]
              have hji : j ≠ i := fun e => hiH (e ▸ hj)
              rw [if_neg hji] at hl
              exact hs'H j hj hl d hd
            · exact (hTn j hj d hd).symm
          · exfalso
            by_cases hji : j = i
            · subst hji
              obtain ⟨m1, m2, rfl⟩ := List.append_of_mem hj
              have := (F.data (H ++ T ++ m1) j m2 (by simp)).1
              exact this (List.mem_append_left _ (List.mem_append_right _ hTm))
            · rw [if_neg hji] at hl
              have := anc_listed hI.dc ops.size j i (G.post j hj i hTm) (fun o' ho' e he hb => hI.dc j o' hl ho' e he hb)
              rw [h0] at this
              cases this
        · rw [hs1 t (fun q _ => ht q)]
          simp only [fill]
          split
          · rename_i hx
            obtain ⟨q, _, hq⟩ := hx
            exact absurd hq (ht q)
          · rfl
        · rw [hd1]; rfl
        · rw [hset] at hl
          have hji : j ≠ i := by
            rintro rfl
            rw [if_pos rfl] at hl
            cases hl
          rw [if_neg hji] at hl
          rcases List.mem_append.1 hj with hj | hj
          · have hjH : j ∈ H := by
              rcases List.mem_append.1 hj with h | h
              · exact h
              · exfalso
                rcases List.mem_cons.1 (hT2' j h) with h4 | h4
                · exact hji h4
                · have := (hDl j h).2 h4; rw [hl] at this; cases this
            obtain ⟨q, hq, hf⟩ := hfact j hjH
            have hlk : ∀ t ∈ q.looksAt ops, sT.t t = sF.t t := fun t ht => by
              by_cases hx : ∃ z, dstOf ops z = some t
              · obtain ⟨z, hz⟩ := hx
                obtain ⟨m1, m2, hm⟩ := List.append_of_mem hjH
                have hzm := ((data m1 j (m2 ++ T) (by rw [hm]; simp)).2 t z ⟨q, hq, ht⟩ hz).1
                have hzH : z ∈ H := by rw [hm]; exact List.mem_append_left _ hzm
                rw [hs1 t (hBn z (List.mem_append_left _ hzH) t hz), hHf z hzH t hz]
              · rw [hs1 t (fun z _ hz => hx ⟨z, hz⟩)]
                simp only [fill]
                rw [if_neg (fun ⟨z, _, hz⟩ => hx ⟨z, hz⟩), hs' t (fun e => hx ⟨i, by rw [hdst]; exact e⟩)]
                exact (hI.hc t fun z hz => hx ⟨z, hz⟩).symm
            have hsem : q.semAt r (rd n sT) = q.semAt r (rd n sF) := semAt_congr ops (F.plain j q hq) hlk
            have hwn : Region.wanted q (yieldedE ops n sT) = Region.wanted q (yieldedE ops n sF) := wanted_congr ops hlk
            have hdq : ∀ d, q.dst = some d → sF.t d = sT.t d := fun d hd => by
              have hjd : dstOf ops j = some d := by simp [dstOf, hq, hd]
              rw [hs1 d (hBn j (List.mem_append_left _ hjH) d hjd), hHf j hjH d hjd]
            refine ⟨q, hq, ?_⟩
            rcases hf with ⟨hwt, v, hv, hdv⟩ | ⟨hwf, hdv⟩
            · refine .inl ⟨by rw [← hwn]; exact hwt, v, ?_, fun d hd => by rw [hdq d hd]; exact hdv d hd⟩
              rw [← hsem]
              have hp : isPur q.op = true ∨ E.contains j = true := by
                rcases G.head j hjH with (⟨q', hq', hp⟩ | hE) | hanc
                · rw [hq] at hq'; cases hq'; exact .inl hp
                · exact .inr hE
                · exfalso
                  have := anc_listed hI.dc ops.size i j (hanc i hTm) hpre'
                  rw [hl] at this
                  cases this
              by_cases hp1 : isPur q.op = true
              · rw [if_pos hp1] at hv; exact hv w'
              · rw [if_neg hp1, if_pos (hp.resolve_left hp1)] at hv
                rcases hc2w' with hc2 | hall
                · exact hv w' hc2
                · exfalso
                  have := hall j (by simpa using hp.resolve_left hp1)
                  rw [hl] at this
                  cases this
            · exact .inr ⟨by rw [← hwn]; exact hwf, fun d hd => by rw [hdq d hd]; exact hdv d hd⟩
          · obtain ⟨q, hq, hf⟩ := hfB j hj
            refine ⟨q, hq, ?_⟩
            rcases hf with ⟨hwt, v, hv, hdv⟩ | ⟨hwf, hdv⟩
            · refine .inl ⟨hwt, v, ?_, hdv⟩
              by_cases hp1 : isPur q.op = true
              · rw [if_pos hp1] at hv; exact hv w'
              · rcases G.pure j hj with ⟨q', hq', hp⟩ | hE
                · rw [hq] at hq'; cases hq'; exact absurd hp hp1
                · rw [if_neg hp1, if_pos hE] at hv; exact hv w' rfl
            · exact .inr ⟨hwf, hdv⟩
      have hnext : ∀ (s' : St) w', (∀ t, o.dst ≠ some t → s'.t t = s.t t) → (C2 w' ∨ ∀ e ∈ E, listed.getD e false = true) → OpsT P r n ops E T C2 (PostQ P r n ops EB B K) X g' (i :: D) (fill ops H sT s') w' → AnyO P r n ops K X f (listed.setIfInBounds i true) s' w' := fun s' w' hs' hc2 ho' => by
        have hnd' : (i :: D).Nodup := List.nodup_cons.2 ⟨hiD, hDn⟩
        have hsub' : ∀ j ∈ i :: D, j ∈ T := fun j hj => by
          rcases List.mem_cons.1 hj with rfl | hj
          · exact hTm
          · exact hDT j hj
        by_cases hg0 : g' = 0
        · subst hg0
          refine phase2 s' w' hs' (fun t ht => ?_) hc2 ho'
          refine Classical.byContradiction fun hn => ?_
          have h5 : (t :: i :: D).length ≤ T.length := nodup_le (List.nodup_cons.2 ⟨hn, hnd'⟩) (fun x hx => by
            rcases List.mem_cons.1 hx with rfl | hx
            · exact ht
            · exact hsub' x hx)
          simp at h5
          omega
        refine ih _ _ _ hu' ⟨by simpa using hI.sz, hdc', fun j hj hl d hd => ?_, fun t ht => ?_, i :: D, g', by simp; omega, hnd', hsub', fun j hj => ?_, .inr ⟨by simp, hc2.imp id fun h e he => by rw [hset]; simp [h e he], ho'⟩⟩ (by
          refine Classical.byContradiction fun hn => ?_
          have hall : ∀ t ∈ T, t ∈ i :: D := fun t ht => by
            have h6 : (listed.setIfInBounds i true).getD t false = true := by
              cases h7 : (listed.setIfInBounds i true).getD t false
              · exact absurd ⟨t, ht, h7⟩ hn
              · rfl
            rw [hset] at h6
            by_cases hti : t = i
            · rw [hti]; exact List.mem_cons_self
            · rw [if_neg hti] at h6
              exact List.mem_cons_of_mem _ ((hDl t ht).1 h6)
          have h5 := nodup_le hTn hall
          simp at h5
          omega)
        · have hji : j ≠ i := fun e => hiH (e ▸ hj)
          rw [hset, if_neg hji] at hl
          rw [hs' d (fun e => hnd d e ⟨j, hj, hd⟩)]
          exact hI.hb j hj hl d hd
        · rw [hs' t (fun e => ht i (by rw [hdst, e]))]
          exact hI.hc t ht
        · rw [hset]
          by_cases hji : j = i
          · rw [if_pos hji, hji]; simp
          · rw [if_neg hji, hDl j hj]
            simp [hji]
      show Op1 P r n ops _ X i s w
      unfold Op1
      simp only [ho]
      have hwn : Region.wanted o (yieldedE ops n (fill ops H sT s)) = Region.wanted o (yieldedE ops n s) := wanted_congr ops hlook
      rw [hwn] at hops
      split
      · rename_i hw
        rw [if_pos hw] at hops
        refine opW_transfer ops (F.plain i o ho) hlook (fun v w' h => ?_) (fun d v w' h => ?_) (fun c w' h => hX _ _ _ _ h) hops
        · refine hnext _ _ (fun t ht => put_t ht) (hC2n _ h.1) ?_
          rw [← fill_put_tail hnd]; exact h.2
        · refine hnext _ _ (fun t ht => put_t ht) (hC2n _ h.1) ?_
          have e1 : (({ fill ops H sT s with d := d :: (fill ops H sT s).d } : St)) = fill ops H sT { s with d := d :: s.d } := rfl
          rw [e1] at h
          rw [← fill_put_tail hnd]; exact h.2
      · rename_i hw
        rw [if_neg hw] at hops
        refine hnext _ _ (fun t ht => put_t ht) hC2w ?_
        rw [← fill_put_tail hnd]; exact hops
    · -- a follower cannot come before the tail's end
      exfalso
      obtain ⟨t, ht, hl⟩ := hne
      have := anc_listed hI.dc ops.size i t (G.post i hB t ht) hpre'
      rw [hl] at this
      cases this


def treeOk (ops : Array Oper) (H E T B EB : List Nat) : Bool :=
  regOk ops (H ++ T ++ B) [] [] && (H.all fun h => ((ops[h]?).map (isPur ·.op)).getD false || E.contains h || T.all fun t => anc ops ops.size t h) && (B.all fun b => T.all fun t => anc ops ops.size b t) &&
  (B.all fun b => ((ops[b]?).map (isPur ·.op)).getD false || EB.contains b) && !T.isEmpty && T.Nodup

theorem pur_of {b : Nat} {q : Bool} (h : (((ops[b]?).map (isPur ·.op)).getD false || q) = true) : (∃ o : Oper, ops[b]? = some o ∧ isPur o.op = true) ∨ q = true := by
  rw [Bool.or_eq_true] at h
  rcases h with h | h
  · cases ho : ops[b]? with
    | none => rw [ho] at h; cases h
    | some o => rw [ho] at h; exact .inl ⟨o, rfl, h⟩
  · exact .inr h

theorem treeFacts {EB : List Nat} (h : treeOk ops H E T B EB = true) : RegFacts ops (H ++ T ++ B) [] [] ∧ TreeFacts ops H E T B EB ∧ T.Nodup := by
  unfold treeOk at h
  simp only [Bool.and_eq_true, decide_eq_true_eq] at h
  obtain ⟨⟨⟨⟨⟨h1, h2⟩, h3⟩, h4⟩, h5⟩, h6⟩ := h
  refine ⟨regFacts h1, ⟨fun x hx => ?_, fun b hb t ht => ?_, fun b hb => ?_, ?_⟩, h6⟩
  · have := List.all_eq_true.1 h2 x hx
    rw [Bool.or_assoc] at this
    rcases pur_of this with h | h
    · exact .inl (.inl h)
    · rw [Bool.or_eq_true] at h
      rcases h with h | h
      · exact .inl (.inr h)
      · exact .inr fun t ht => List.all_eq_true.1 h t ht
  · exact List.all_eq_true.1 (List.all_eq_true.1 h3 b hb) t ht
  · exact pur_of (List.all_eq_true.1 h4 b hb)
  · rintro rfl
    simp at h5

theorem w_tree {id : Nat} {Q : Exit → St → World → Prop} {s : St} {w : World} (H E T B EB : List Nat) (C C2 : World → Prop) (hm : P.follows .mixedOrders = true) (hchk : treeOk ops H E T B EB = true) (hX : ∀ c s s' w, Q (.panic c) s w → Q (.panic c) s' w) (hC : ∀ w', To w w' w.heap → C w') (hCC : ∀ w', C w' → C2 w')
    (h : OpsQ P r n ops E C C2 (fun sT => ∀ w', C w' → OpsT P r n ops E T C2 (PostQ P r n ops EB B (Q .normal)) (fun c => Q (.panic c)) T.length [] sT w') H s) : W P r n (.region id ops true) Q s w := by
  obtain ⟨F, G, hTn⟩ := treeFacts hchk
  refine w_region_any hm fun w' hw' => ?_
  obtain ⟨sT, h1, h2, h3, h4⟩ := opsQ_factsP F H [] (T ++ B) (by simp) s h
  refine inv_tree F G hTn hX h4 hCC h1 ops.size _ s w' ?_ ⟨by simp, fun i o hi => ?_, fun j _ hl => ?_, fun t ht => (h2 t fun j _ => ht j).symm, [], T.length, by simp, List.nodup_nil, (fun j hj => nomatch hj), (fun j hj => ?_), .inl ⟨rfl, hC w' hw', ?_⟩⟩ ?_
  · unfold unl
    exact Nat.le_trans (List.length_filter_le _ _) (by simp)
  · exfalso; simp [Array.getD] at hi
  · exfalso; simp [Array.getD] at hl
  · simp [Array.getD]
  · refine St.ext (fun t => ?_) ?_
    · simp only [fill]
      split
      · rfl
      · rename_i hx
        exact (h2 t fun j hj hd => hx ⟨j, hj, hd⟩).symm
    · simp only [fill]; exact h3.symm
  · cases hT : T with
    | nil => exact absurd hT G.ne
    | cons t l => exact ⟨t, List.mem_cons_self, by simp [Array.getD]⟩

theorem wk_tree {id : Nat} {ol : List Oper} {K : St → World → Prop} {Q : Ex} {s : St} {w : World} (H E T B EB : List Nat) (C C2 : World → Prop) (hm : P.follows .mixedOrders = true) (hchk : treeOk ol.toArray H E T B EB = true) (hX : ∀ c s s' w, Q (.panic c) s w → Q (.panic c) s' w) (hC : ∀ w', To w w' w.heap → C w') (hCC : ∀ w', C w' → C2 w')
    (h : OpsQ P r n ol.toArray E C C2 (fun sT => ∀ w', C w' → OpsT P r n ol.toArray E T C2 (PostQ P r n ol.toArray EB B K) (fun c => Q (.panic c)) T.length [] sT w') H s) : WK P r n (.region id ol.toArray true) K Q s w := by
  unfold WK
  exact w_tree H E T B EB C C2 hm hchk hX hC hCC h

theorem opsT_op {g : Nat} {D : List Nat} {s : St} {w : World} {i : Nat} {o : Oper} (ho : ops[i]? = some o) (hw : Region.wanted o (yieldedE ops n s) = true) (h : OpsL P r n ops (fun s w => (C2 w ∨ E.all (fun e => (i :: D).any fun t => anc ops ops.size t e) = true) ∧ OpsT P r n ops E T C2 K X g (i :: D) s w) X [o] s w) :
    (match ops[i]? with
    | none => False
    | some o =>
      if Region.wanted o (yieldedE ops n s) then OpW P r n o s w (fun s' w' => (C2 w' ∨ E.all (fun e => (i :: D).any fun t => anc ops ops.size t e) = true) ∧ OpsT P r n ops E T C2 K X g (i :: D) s' w') (fun ch w' => X ch s w')
      else OpsT P r n ops E T C2 K X g (i :: D) (s.put o.dst undef) w) := by
  simp only [ho, hw, if_true]
  simp only [OpsL, hw, if_true] at h
  exact h

theorem opsT_1 {g : Nat} {D : List Nat} {s : St} {w : World} {i : Nat} {o : Oper} (ha : avail ops T D = [i]) (ho : ops[i]? = some o) (hw : Region.wanted o (yieldedE ops n s) = true)
    (h : OpsL P r n ops (fun s w => (C2 w ∨ E.all (fun e => (i :: D).any fun t => anc ops ops.size t e) = true) ∧ OpsT P r n ops E T C2 K X g (i :: D) s w) X [o] s w) : OpsT P r n ops E T C2 K X (g + 1) D s w := by
  intro j hj
  rw [ha] at hj
  rw [List.mem_singleton.1 hj]
  exact opsT_op ho hw h

theorem opsT_2 {g : Nat} {D : List Nat} {s : St} {w : World} {i i' : Nat} {o o' : Oper} (ha : avail ops T D = [i, i']) (ho : ops[i]? = some o) (ho' : ops[i']? = some o') (hw : Region.wanted o (yieldedE ops n s) = true) (hw' : Region.wanted o' (yieldedE ops n s) = true)
    (h : OpsL P r n ops (fun s w => (C2 w ∨ E.all (fun e => (i :: D).any fun t => anc ops ops.size t e) = true) ∧ OpsT P r n ops E T C2 K X g (i :: D) s w) X [o] s w)
    (h' : OpsL P r n ops (fun s w => (C2 w ∨ E.all (fun e => (i' :: D).any fun t => anc ops ops.size t e) = true) ∧ OpsT P r n ops E T C2 K X g (i' :: D) s w) X [o'] s w) : OpsT P r n ops E T C2 K X (g + 1) D s w := by
  intro j hj
  rw [ha] at hj
  rcases List.mem_cons.1 hj with rfl | hj
  · exact opsT_op ho hw h
  · rw [List.mem_singleton.1 hj]
    exact opsT_op ho' hw' h'

theorem opsT_nil {D : List Nat} {s : St} {w : World} (h : K s w) : OpsT P r n ops E T C2 K X 0 D s w := h
end
end Go.Pd
