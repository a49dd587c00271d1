/-
  Regions that draw their order and may panic in their tail.
-/
import Derived.Test.YtcanaadgcgophaaDoorPan2
set_option linter.unusedSimpArgs false
set_option linter.unnecessarySimpa false
set_option maxRecDepth 10000
set_option linter.unusedVariables false
namespace Go.Pd
variable {P : Program} {r : Option Nat} {n : Nat}
section
variable {ops : Array Oper} {H E T : List Nat} {K : St → World → Prop} {X : List PanicEntry → St → World → Prop} {C C2 : World → Prop}
theorem inv_anyD (F : RegFacts ops H E T) (hX : ∀ c s s' w, s.d = s'.d → X c s w → X c s' w) {sT : St} (hfact : ∀ i ∈ H, FactAt P r n ops E C C2 sT i) (hCC : ∀ w, C w → C2 w) (hT : ∀ w, C w → OpsC P r n ops C2 K X T sT w) : ∀ (f : Nat) (listed : Array Bool) (s : St) (w : World),
    unl ops listed ≤ f → Inv P r n ops H T K X C C2 sT listed s w → AnyO P r n ops K X f listed s w := by
  have hend : ∀ (listed : Array Bool) (s : St) (w : World), (∀ i, i < ops.size → listed.getD i false = true) → Inv P r n ops H T K X C C2 sT listed s w → K s w := by
    intro listed s w hall hI
    obtain ⟨T1, T2, hTe, h1, h2, h3⟩ := hI.ht
    have hT2 : T2 = [] := by
      cases T2 with
      | nil => rfl
      | cons j l =>
        have hj : j < ops.size := F.lt j (by rw [hTe]; simp)
        have := h2 j List.mem_cons_self
        rw [hall j hj] at this
        cases this
    subst hT2
    rw [List.append_nil] at hTe
    subst hTe
    have hfs : fill ops H sT s = s := fill_self F fun j hj d hd => hI.hb j hj (hall j (F.lt j (List.mem_append_left _ hj))) d hd
    rcases h3 with ⟨rfl, hC, he⟩ | ⟨_, _, h3⟩
    · have := hT w hC
      rw [← he, hfs] at this
      exact this
    · rw [hfs] at h3
      exact h3
  intro f
  induction f with
  | zero =>
    intro listed s w hu hI
    have hall : ∀ i, i < ops.size → listed.getD i false = true := fun i hi => by
      by_cases hl : listed.getD i false = true
      · exact hl
      · exfalso
        have : i ∈ (List.range ops.size).filter fun i => !listed.getD i false := by
          rw [List.mem_filter]; exact ⟨List.mem_range.2 hi, by simpa using hl⟩
        have := List.length_pos_of_mem this
        unfold unl at hu
        omega
    refine ⟨?_, hend listed s w hall hI⟩
    cases hr : Region.ready .any ops listed with
    | nil => rfl
    | cons i l =>
      have : i ∈ Region.ready .any ops listed := by rw [hr]; exact List.mem_cons_self
      rw [mem_ready] at this
      obtain ⟨h0, o, ho, -⟩ := this
      have hi : i < ops.size := (Array.getElem?_eq_some_iff.1 ho).1
      have h1 := hall i hi
      rw [getD_flip (by rw [hI.sz]; exact hi)] at h0
      rw [h0] at h1
      cases h1
  | succ f ih =>
    intro listed s w hu hI
    refine ⟨fun hr => hend listed s w (done_all F hI.sz hr) hI, fun i hir => ?_⟩
    rw [mem_ready] at hir
    obtain ⟨h0, o, ho, hpre⟩ := hir
    have hi : i < ops.size := (Array.getElem?_eq_some_iff.1 ho).1
    have hil : i < listed.size := by rw [hI.sz]; exact hi
    rw [getD_flip hil] at h0
    have hset : ∀ j, (listed.setIfInBounds i true).getD j false = if j = i then true else listed.getD j false := fun j => by
      by_cases hj : j = i
      · subst hj; simp [Array.getD, hil]
      · rw [if_neg hj, getD_set_ne false (Ne.symm hj)]
    have hpre' : ∀ o', ops[i]? = some o' → ∀ e ∈ o'.after, Region.binds .any e = true → listed.getD e.on false = true := fun o' ho' => by
      rw [ho] at ho'; cases ho'; exact hpre
    have hu' : unl ops (listed.setIfInBounds i true) ≤ f := by
      have := filter_lt (fun j => !listed.getD j false) (fun j => !(listed.setIfInBounds i true).getD j false) i (fun x hx => by
        simp only [hset] at hx
        by_cases hxi : x = i
        · subst hxi; simp at hx
        · simpa [hxi] using hx) (by simp [h0]) (by simp [hset]) (List.range ops.size) (List.mem_range.2 hi)
      unfold unl at hu ⊢
      omega
    have hdc' : ∀ j o', (listed.setIfInBounds i true).getD j false = true → ops[j]? = some o' → ∀ e ∈ o'.after, Region.binds .any e = true → (listed.setIfInBounds i true).getD e.on false = true := fun j o' hj ho' e he hb => by
      rw [hset] at hj ⊢
      by_cases hji : j = i
      · subst hji
        have := hpre' o' ho' e he hb
        simp [this]
      · rw [if_neg hji] at hj
        have := hI.dc j o' hj ho' e he hb
        simp [this]
    have hdst : dstOf ops i = o.dst := by simp [dstOf, ho]
    obtain ⟨T1, T2, hTe, h1, h2, h3⟩ := hI.ht
    rcases F.cover i hi with hH | hTm
    · -- a head
      have hiT : i ∉ T := fun hm => by
        obtain ⟨m1, m2, rfl⟩ := List.append_of_mem hm
        have := (F.data (H ++ m1) i m2 (by simp)).1
        simp at this
        exact this.1 hH
      -- what it looks at is as at the end
      have hlook : ∀ t ∈ o.looksAt ops, sT.t t = s.t t := fun t ht => by
        by_cases hx : ∃ j, dstOf ops j = some t
        · obtain ⟨j, hj⟩ := hx
          obtain ⟨l1, l2, hl⟩ := List.append_of_mem (List.mem_append_left T hH)
          obtain ⟨hjl, hje⟩ := (F.data l1 i l2 hl).2 t j ⟨o, ho, ht⟩ hj
          obtain ⟨e, he, hb, hon⟩ := edge_on hje ho
          have hlj : listed.getD j false = true := by rw [← hon]; exact hpre e he hb
          -- j is a head
          have hjH : j ∈ H := by
            rcases F.cover j (dstOf_lt hj) with h | h
            · exact h
            · exfalso
              obtain ⟨m1, m2, hm⟩ := List.append_of_mem hH
              have hl' : H ++ T = m1 ++ i :: (m2 ++ T) := by rw [hm]; simp
              have hjm := ((F.data m1 i (m2 ++ T) hl').2 t j ⟨o, ho, ht⟩ hj).1
              obtain ⟨k1, k2, hk⟩ := List.append_of_mem h
              have := (F.data (H ++ k1) j k2 (by rw [hk]; simp)).1
              simp at this
              exact this.1 (by rw [hm]; simp [hjm])
          exact (hI.hb j hjH hlj t hj).symm
        · exact (hI.hc t fun j hj => hx ⟨j, hj⟩).symm
      obtain ⟨o', ho', hf⟩ := hfact i hH
      rw [ho] at ho'; cases ho'
      have hsem : o.semAt r (rd n sT) = o.semAt r (rd n s) := semAt_congr ops (F.plain i o ho) hlook
      have hwn : Region.wanted o (yieldedE ops n sT) = Region.wanted o (yieldedE ops n s) := wanted_congr ops hlook
      have hfillH : ∀ v, fill ops H sT (s.put o.dst v) = fill ops H sT s := fun v => fill_put_head fun t ht => ⟨i, hH, by rw [hdst, ht]⟩
      -- how it goes on
      have hnext : ∀ v w', (∀ d, o.dst = some d → sT.t d = v) → ((T1 = [] ∧ C w') ∨ (T1 ≠ [] ∧ w' = w)) → AnyO P r n ops K X f (listed.setIfInBounds i true) (s.put o.dst v) w' := fun v w' hv hw' => by
        refine ih _ _ _ hu' ⟨by simpa using hI.sz, hdc', fun j hj hl d hd => ?_, fun t ht => ?_, T1, T2, hTe, fun j hj => ?_, fun j hj => ?_, ?_⟩
        · rw [hset] at hl
          by_cases hji : j = i
          · subst hji
            rw [hdst] at hd
            rw [hd, put_some, St.set_t, if_pos rfl]
            exact (hv d hd).symm
          · rw [if_neg hji] at hl
            rw [put_t]
            · exact hI.hb j hj hl d hd
            · intro e
              exact F.dist j i d hji hd (by rw [hdst, e])
        · rw [put_t]
          · exact hI.hc t ht
          · intro e
            exact ht i (by rw [hdst, e])
        · rw [hset]; simp [h1 j hj]
        · rw [hset]
          have : j ≠ i := fun e => hiT (by rw [hTe, ← e]; simp [hj])
          simp [this, h2 j hj]
        · rw [hfillH]
          rcases h3 with ⟨ha, hb, hc⟩ | ⟨ha, hb⟩
          · rcases hw' with ⟨_, hC⟩ | ⟨h', _⟩
            · exact .inl ⟨ha, hC, hc⟩
            · exact absurd ha h'
          · rcases hw' with ⟨h', _⟩ | ⟨_, rfl⟩
            · exact absurd h' ha
            · exact .inr ⟨ha, hb⟩
      show Op1 P r n ops _ X i s w
      unfold Op1
      simp only [ho]
      rcases hf with ⟨hwt, v, hv, hdv⟩ | ⟨hwf, hdv⟩
      · rw [← hwn, if_pos hwt]
        unfold OpW
        rw [← hsem]
        rcases h3 with ⟨ha, hC, hc⟩ | ⟨ha, hb⟩
        · have hy : Yld P r n C o sT v := by
            split at hv
            · exact Pur.yld hv
            · split at hv
              · exact LdY.yld hCC hv
              · exact hv
          have hyw := hy w hC
          revert hyw
          cases (o.semAt r (rd n sT)).run P w with
          | ok m w' =>
            cases m <;> simp only
            case value u =>
              rintro ⟨rfl, hC'⟩
              exact hnext _ w' hdv (.inl ⟨ha, hC'⟩)
            case enter fn args =>
              intro hcall
              refine hcall.mono fun e w'' ⟨he, hC'⟩ => ?_
              subst he
              exact hnext _ w'' hdv (.inl ⟨ha, hC'⟩)
            all_goals exact fun h => h.elim
          | halt x w' => simp only; exact fun h => h.elim
        · -- behind the first of the tail: it is pure, or a late load
          have hp : isPur o.op = true ∨ E.contains i = true := by
            cases T1 with
            | nil => exact absurd rfl ha
            | cons t l =>
              rcases F.head i hH t (l ++ T2) (by rw [hTe]; simp) with (⟨o', ho', hp⟩ | hE) | hanc
              · rw [ho] at ho'; cases ho'; exact .inl hp
              · exact .inr hE
              · exfalso
                have hlt := h1 t List.mem_cons_self
                have := anc_listed hI.dc ops.size t i hanc (fun o' ho' e he hb => hI.dc t o' hlt ho' e he hb)
                rw [h0] at this
                cases this
          have hrun : (o.semAt r (rd n sT)).run P w = .ok (.value v) w := by
            by_cases hp1 : isPur o.op = true
            · rw [if_pos hp1] at hv; exact hv w
            · rw [if_neg hp1, if_pos (hp.resolve_left hp1)] at hv; exact hv w hb.1
          rw [hrun]
          exact hnext _ w hdv (.inr ⟨ha, rfl⟩)
      · rw [← hwn, if_neg (by simp [hwf])]
        refine hnext undef w hdv ?_
        rcases h3 with ⟨ha, hC, hc⟩ | ⟨ha, hb⟩
        · exact .inl ⟨ha, hC⟩
        · exact .inr ⟨ha, rfl⟩
    · -- one of the tail: it is the next
      have hiH : i ∉ H := fun hm => by
        obtain ⟨m1, m2, hk⟩ := List.append_of_mem hTm
        have := (F.data (H ++ m1) i m2 (by rw [hk]; simp)).1
        simp at this
        exact this.1 hm
      have hiT2 : i ∈ T2 := by
        rw [hTe] at hTm
        rcases List.mem_append.1 hTm with h | h
        · have := h1 i h; rw [h0] at this; cases this
        · exact h
      obtain ⟨T2', rfl⟩ : ∃ T2', T2 = i :: T2' := by
        obtain ⟨m1, m2, hm⟩ := List.append_of_mem hiT2
        rcases List.eq_nil_or_concat m1 with rfl | ⟨m1', a, rfl⟩
        · exact ⟨m2, hm⟩
        · exfalso
          have hanc := F.tail (T1 ++ m1') a i m2 (by rw [hTe, hm]; simp)
          have := anc_listed hI.dc ops.size i a hanc hpre'
          rw [h2 a (by rw [hm]; simp)] at this
          cases this
      have hC2w : C2 w := by
        rcases h3 with ⟨_, hC, _⟩ | ⟨_, hb, _⟩
        · exact hCC w hC
        · exact hb
      have hops : OpsC P r n ops C2 K X (i :: T2') (fill ops H sT s) w := by
        rcases h3 with ⟨rfl, hC, hc⟩ | ⟨_, _, hb⟩
        · rw [hc]
          have := hT w hC
          rw [hTe] at this
          exact this
        · exact hb
      simp only [OpsC, ho] at hops
      have hnd : ∀ t, o.dst = some t → ¬ ∃ j ∈ H, dstOf ops j = some t := fun t ht ⟨j, hj, hd⟩ => by
        have hne : j ≠ i := fun e => hiH (e ▸ hj)
        exact F.dist j i t hne hd (by rw [hdst, ht])
      have hlook : ∀ t ∈ o.looksAt ops, (fill ops H sT s).t t = s.t t := fun t ht => by
        refine fill_t fun j hj hd => ?_
        obtain ⟨l1, l2, hl⟩ := List.append_of_mem (List.mem_append_right H hTm)
        obtain ⟨_, hje⟩ := (F.data l1 i l2 hl).2 t j ⟨o, ho, ht⟩ hd
        obtain ⟨e, he, hb, hon⟩ := edge_on hje ho
        exact hI.hb j hj (by rw [← hon]; exact hpre e he hb) t hd
      have hnext : ∀ (s' : St) w', (∀ t, o.dst ≠ some t → s'.t t = s.t t) → C2 w' → OpsC P r n ops C2 K X T2' (fill ops H sT s') w' → AnyO P r n ops K X f (listed.setIfInBounds i true) s' w' := fun s' w' hs' hc2 ho' => by
        refine ih _ _ _ hu' ⟨by simpa using hI.sz, hdc', fun j hj hl d hd => ?_, fun t ht => ?_, T1 ++ [i], T2', by rw [hTe]; simp, fun j hj => ?_, fun j hj => ?_, .inr ⟨by simp, hc2, ho'⟩⟩
        · have hji : j ≠ i := fun e => hiH (e ▸ hj)
          rw [hset, if_neg hji] at hl
          rw [hs' d (fun e => hnd d e ⟨j, hj, hd⟩)]
          exact hI.hb j hj hl d hd
        · rw [hs' t (fun e => ht i (by rw [hdst, e]))]
          exact hI.hc t ht
        · rw [hset]
          rcases List.mem_append.1 hj with h | h
          · simp [h1 j h]
          · simp at h; simp [h]
        · rw [hset]
          have hne : j ≠ i := by
            rintro rfl
            obtain ⟨m1, m2, rfl⟩ := List.append_of_mem hj
            have := (F.data (H ++ T1 ++ j :: m1) j m2 (by rw [hTe]; simp)).1
            simp at this
          simp [hne, h2 j (List.mem_cons_of_mem _ hj)]
      show Op1 P r n ops _ X i s w
      unfold Op1
      simp only [ho]
      have hwn : Region.wanted o (yieldedE ops n (fill ops H sT s)) = Region.wanted o (yieldedE ops n s) := wanted_congr ops hlook
      rw [hwn] at hops
      split
      · rename_i hw
        rw [if_pos hw] at hops
        refine opW_transfer ops (F.plain i o ho) hlook (fun v w' h => ?_) (fun d v w' h => ?_) (fun c w' h => hX c (fill ops H sT s) s w' rfl h) hops
        · refine hnext _ _ (fun t ht => put_t ht) h.1 ?_
          rw [← fill_put_tail hnd]; exact h.2
        · refine hnext _ _ (fun t ht => put_t ht) h.1 ?_
          have e1 : (({ fill ops H sT s with d := d :: (fill ops H sT s).d } : St)) = fill ops H sT { s with d := d :: s.d } := rfl
          rw [e1] at h
          rw [← fill_put_tail hnd]; exact h.2
      · rename_i hw
        rw [if_neg hw] at hops
        refine hnext _ _ (fun t ht => put_t ht) hC2w ?_
        rw [← fill_put_tail hnd]; exact hops

/-- **A region that draws its order: the heads are walked quietly in the text's order (those in E may come late: C2), the tail behind them.** -/
theorem w_drawD {id : Nat} {Q : Exit → St → World → Prop} {s : St} {w : World} (H E T : List Nat) (C C2 : World → Prop) (hm : P.follows .mixedOrders = true) (hchk : regOk ops H E T = true) (hX : ∀ c s s' w, s.d = s'.d → Q (.panic c) s w → Q (.panic c) s' w) (hC : ∀ w', To w w' w.heap → C w') (hCC : ∀ w', C w' → C2 w')
    (h : OpsQ P r n ops E C C2 (fun sT => ∀ w', C w' → OpsC P r n ops C2 (Q .normal) (fun c => Q (.panic c)) T sT w') H s) : W P r n (.region id ops true) Q s w := by
  have F := regFacts hchk
  refine w_region_any hm fun w' hw' => ?_
  obtain ⟨sT, h1, h2, h3, h4⟩ := opsQ_facts F H [] (by simp) s h
  refine inv_anyD F hX h4 hCC h1 ops.size _ s w' ?_ ⟨by simp, fun i o hi => ?_, fun j _ hl => ?_, fun t ht => (h2 t fun j _ => ht j).symm, [], T, rfl, (fun j hj => nomatch hj), (fun j hj => ?_), .inl ⟨rfl, hC w' hw', ?_⟩⟩
  · unfold unl
    exact Nat.le_trans (List.length_filter_le _ _) (by simp)
  · exfalso; simp [Array.getD] at hi
  · exfalso; simp [Array.getD] at hl
  · simp [Array.getD]
  · refine St.ext (fun t => ?_) ?_
    · simp only [fill]
      split
      · rfl
      · rename_i hx
        exact (h2 t fun j hj hd => hx ⟨j, hj, hd⟩).symm
    · simp only [fill]; exact h3.symm
/-- A panic's post that looks at the deferred calls and the world alone. -/
def ZP (Z : List PanicEntry → World → Prop) (Q : Exit → St → World → Prop) : Exit → St → World → Prop
  | .panic c, s, w => s.d = [] ∧ Z c w
  | e, s, w => Q e s w
theorem wk_zp {c : Code} {Z : List PanicEntry → World → Prop} {K : St → World → Prop} {Q : Exit → St → World → Prop} {s : St} {w : World} (hZ : ∀ c s w, s.d = [] → Z c w → Q (.panic c) s w) (h : WK P r n c K (ZP Z Q) s w) : WK P r n c K Q s w := by
  unfold WK at h ⊢
  exact w_mono h fun e s w h => by cases e <;> first | exact h | exact hZ _ _ _ h.1 h.2
/-- Quiet heads, and a tail that may panic. -/
theorem wk_drawZ {id : Nat} {ol : List Oper} {Z : List PanicEntry → World → Prop} {K : St → World → Prop} {Q : Exit → St → World → Prop} {s : St} {w : World} (H T : List Nat) (hZ : ∀ c s w, s.d = [] → Z c w → Q (.panic c) s w)
    (h : OpsQ P r n ol.toArray [] (fun w' => Ext w w') (fun _ => True) (fun sT => ∀ w', Ext w w' → OpsC P r n ol.toArray (fun _ => True) K (fun c s w => s.d = [] ∧ Z c w) T sT w') H s) (hm : P.follows .mixedOrders = true := by rfl) (hchk : regOk ol.toArray H [] T = true := by kernel_rfl) : WK P r n (.region id ol.toArray true) K Q s w := by
  refine wk_zp hZ ?_
  unfold WK
  exact w_drawD H [] T (fun w' => Ext w w') (fun _ => True) hm hchk (fun c s s' w hd h => ⟨hd ▸ h.1, h.2⟩) (fun _ h => Upd.of_heap h) (fun _ _ => trivial) h
end
end Go.Pd
