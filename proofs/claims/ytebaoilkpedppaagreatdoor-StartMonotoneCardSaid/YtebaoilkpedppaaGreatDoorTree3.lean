/-
  Trees of orders with followers that may be calls, behind the tail: every follower only adds memory.
-/
import Derived.Test.YtebaoilkpedppaaGreatDoorTree2
import Derived.Test.YtebaoilkpedppaaGreatDoorLD
set_option linter.unusedVariables false
set_option linter.unusedSimpArgs false
set_option linter.unnecessarySimpa false
set_option maxRecDepth 10000
namespace Go.Pd
open Go
variable {P : Program} {r : Option Nat} {n : Nat}
section
variable {ops : Array Oper} {H E T B : List Nat} {K : St → World → Prop} {X : List PanicEntry → St → World → Prop} {C C2 : World → Prop}
def PostX (P : Program) (r : Option Nat) (n : Nat) (ops : Array Oper) (B : List Nat) (K : St → World → Prop) (s : St) (w : World) : Prop :=
  OpsX P r n ops w (fun sF => ∀ w', Ext w w' → K sF w') B s
structure TreeFX (ops : Array Oper) (H E T B : List Nat) : Prop where
  head : ∀ h ∈ H, ((∃ o : Oper, ops[h]? = some o ∧ isPur o.op = true) ∨ E.contains h = true) ∨ ∀ t ∈ T, anc ops ops.size t h = true
  post : ∀ b ∈ B, ∀ t ∈ T, anc ops ops.size b t = true
  ne : T ≠ []
def treeOkX (ops : Array Oper) (H E T B : List Nat) : Bool :=
  regOk ops (H ++ T ++ B) [] [] && (H.all fun h => ((ops[h]?).map (isPur ·.op)).getD false || E.contains h || T.all fun t => reachB ops t h) && (B.all fun b => T.all fun t => reachB ops b t) && !T.isEmpty && T.Nodup
theorem treeFX (h : treeOkX ops H E T B = true) : RegFacts ops (H ++ T ++ B) [] [] ∧ TreeFX ops H E T B ∧ T.Nodup := by
  unfold treeOkX at h
  simp only [Bool.and_eq_true, decide_eq_true_eq] at h
  obtain ⟨⟨⟨⟨h1, h2⟩, h3⟩, h5⟩, h6⟩ := h
  have F := regFacts h1
  refine ⟨F, ⟨fun x hx => ?_, fun b hb t ht => ?_, ?_⟩, h6⟩
  · have := List.all_eq_true.1 h2 x hx
    rw [Bool.or_assoc] at this
    rcases pur_of this with h | h
    · exact .inl (.inl h)
    · rw [Bool.or_eq_true] at h
      rcases h with h | h
      · exact .inl (.inr h)
      · exact .inr fun t ht => anc_of_reach (fun i o ho e he hb => F.back i o ho e he hb) (List.all_eq_true.1 h t ht)
  · exact anc_of_reach (fun i o ho e he hb => F.back i o ho e he hb) (List.all_eq_true.1 (List.all_eq_true.1 h3 b hb) t ht)
  · rintro rfl
    simp at h5
theorem inv_treeX (F : RegFacts ops (H ++ T ++ B) [] []) (G : TreeFX ops H E T B) (hTn : T.Nodup) (hX : ∀ c s s' w, X c s w → X c s' w) {sT : St} (hfact : ∀ i ∈ H, FactAt P r n ops E C C2 sT i) (hCC : ∀ w, C w → C2 w) (hCx : ∀ w w', C2 w → Ext w w' → C2 w') (hT : ∀ w, C w → OpsT P r n ops E T C2 (PostX P r n ops B K) X T.length [] sT w) : ∀ (f : Nat) (listed : Array Bool) (s : St) (w : World),
    unl ops listed ≤ f → Inv4 P r n ops H T E (PostX P r n ops B K) X C C2 sT listed s w → (∃ t ∈ T, listed.getD t false = false) → AnyO P r n ops K X f listed s w := by
  have data : ∀ l1 i l2, H ++ T = l1 ++ i :: l2 → i ∉ l1 ∧ ∀ t j, Look ops i t → dstOf ops j = some t → j ∈ l1 ∧ edge ops i j = true := fun l1 i l2 h => F.data l1 i (l2 ++ B) (by rw [List.append_nil, h]; simp)
  have cover : ∀ i, i < ops.size → i ∈ H ∨ i ∈ T ∨ i ∈ B := fun i hi => by
    rcases F.cover i hi with h | h
    · rcases List.mem_append.1 h with h | h
      · rcases List.mem_append.1 h with h | h
        · exact .inl h
        · exact .inr (.inl h)
      · exact .inr (.inr h)
    · cases h
  have lt : ∀ i ∈ H ++ T, i < ops.size := fun i hi => F.lt i (by rw [List.append_nil]; exact List.mem_append_left _ hi)
  intro f
  induction f with
  | zero =>
    intro listed s w hu hI hne
    have hall : ∀ i, i < ops.size → listed.getD i false = true := fun i hi => by
      by_cases hl : listed.getD i false = true
      · exact hl
      · exfalso
        have : i ∈ (List.range ops.size).filter fun i => !listed.getD i false := by
          rw [List.mem_filter]; exact ⟨List.mem_range.2 hi, by simpa using hl⟩
        have := List.length_pos_of_mem this
        unfold unl at hu
        omega
    exfalso
    obtain ⟨t, ht, hl⟩ := hne
    have := hall t (lt t (List.mem_append_right _ ht))
    rw [hl] at this
    cases this
  | succ f ih =>
    intro listed s w hu hI hne
    refine ⟨fun hr => ?_, fun i hir => ?_⟩
    · exfalso
      obtain ⟨t, ht, hl⟩ := hne
      have := done_all F hI.sz hr t (lt t (List.mem_append_right _ ht))
      rw [hl] at this
      cases this
    rw [mem_ready] at hir
    obtain ⟨h0, o, ho, hpre⟩ := hir
    have hi : i < ops.size := (Array.getElem?_eq_some_iff.1 ho).1
    have hil : i < listed.size := by rw [hI.sz]; exact hi
    rw [getD_flip hil] at h0
    have hset : ∀ j, (listed.setIfInBounds i true).getD j false = if j = i then true else listed.getD j false := fun j => by
      by_cases hj : j = i
      · subst hj; simp [Array.getD, hil]
      · rw [if_neg hj, getD_set_ne false (Ne.symm hj)]
    have hpre' : ∀ o', ops[i]? = some o' → ∀ e ∈ o'.after, Region.binds .any e = true → listed.getD e.on false = true := fun o' ho' => by
      rw [ho] at ho'; cases ho'; exact hpre
    have hu' : unl ops (listed.setIfInBounds i true) ≤ f := by
      have := filter_lt (fun j => !listed.getD j false) (fun j => !(listed.setIfInBounds i true).getD j false) i (fun x hx => by
        simp only [hset] at hx
        by_cases hxi : x = i
        · subst hxi; simp at hx
        · simpa [hxi] using hx) (by simp [h0]) (by simp [hset]) (List.range ops.size) (List.mem_range.2 hi)
      unfold unl at hu ⊢
      omega
    have hdc' : ∀ j o', (listed.setIfInBounds i true).getD j false = true → ops[j]? = some o' → ∀ e ∈ o'.after, Region.binds .any e = true → (listed.setIfInBounds i true).getD e.on false = true := fun j o' hj ho' e he hb => by
      rw [hset] at hj ⊢
      by_cases hji : j = i
      · subst hji
        have := hpre' o' ho' e he hb
        simp [this]
      · rw [if_neg hji] at hj
        have := hI.dc j o' hj ho' e he hb
        simp [this]
    have hdst : dstOf ops i = o.dst := by simp [dstOf, ho]
    obtain ⟨D, g, hg, hDn, hDT, hDl, h3⟩ := hI.ht
    rcases cover i hi with hH | hTm | hB
    · -- a head
      have hiT : i ∉ T := fun hm => by
        obtain ⟨m1, m2, rfl⟩ := List.append_of_mem hm
        have := (data (H ++ m1) i m2 (by simp)).1
        simp at this
        exact this.1 hH
      -- what it looks at is as at the end
      have hlook : ∀ t ∈ o.looksAt ops, sT.t t = s.t t := fun t ht => by
        by_cases hx : ∃ j, dstOf ops j = some t
        · obtain ⟨j, hj⟩ := hx
          obtain ⟨l1, l2, hl⟩ := List.append_of_mem (List.mem_append_left T hH)
          obtain ⟨hjl, hje⟩ := (data l1 i l2 hl).2 t j ⟨o, ho, ht⟩ hj
          obtain ⟨e, he, hb, hon⟩ := edge_on hje ho
          have hlj : listed.getD j false = true := by rw [← hon]; exact hpre e he hb
          -- j is a head
          have hjH : j ∈ H := by
            obtain ⟨m1, m2, hm⟩ := List.append_of_mem hH
            have hl' : H ++ T = m1 ++ i :: (m2 ++ T) := by rw [hm]; simp
            have hjm1 := ((data m1 i (m2 ++ T) hl').2 t j ⟨o, ho, ht⟩ hj).1
            rw [hm]
            exact List.mem_append_left _ hjm1
          exact (hI.hb j hjH hlj t hj).symm
        · exact (hI.hc t fun j hj => hx ⟨j, hj⟩).symm
      obtain ⟨o', ho', hf⟩ := hfact i hH
      rw [ho] at ho'; cases ho'
      have hsem : o.semAt r (rd n sT) = o.semAt r (rd n s) := semAt_congr ops (F.plain i o ho) hlook
      have hwn : Region.wanted o (yieldedE ops n sT) = Region.wanted o (yieldedE ops n s) := wanted_congr ops hlook
      have hfillH : ∀ v, fill ops H sT (s.put o.dst v) = fill ops H sT s := fun v => fill_put_head fun t ht => ⟨i, hH, by rw [hdst, ht]⟩
      -- how it goes on
      have hnext : ∀ v w', (∀ d, o.dst = some d → sT.t d = v) → ((D = [] ∧ C w') ∨ (D ≠ [] ∧ w' = w)) → AnyO P r n ops K X f (listed.setIfInBounds i true) (s.put o.dst v) w' := fun v w' hv hw' => by
        refine ih _ _ _ hu' ⟨by simpa using hI.sz, hdc', fun j hj hl d hd => ?_, fun t ht => ?_, D, g, hg, hDn, hDT, fun j hj => ?_, ?_⟩ (by
          obtain ⟨t, ht, hl⟩ := hne
          exact ⟨t, ht, by rw [hset, if_neg (fun e => by subst e; exact hiT ht)]; exact hl⟩)
        · rw [hset] at hl
          by_cases hji : j = i
          · subst hji
            rw [hdst] at hd
            rw [hd, put_some, St.set_t, if_pos rfl]
            exact (hv d hd).symm
          · rw [if_neg hji] at hl
            rw [put_t]
            · exact hI.hb j hj hl d hd
            · intro e
              exact F.dist j i d hji hd (by rw [hdst, e])
        · rw [put_t]
          · exact hI.hc t ht
          · intro e
            exact ht i (by rw [hdst, e])
        · rw [hset, if_neg (fun (e : j = i) => hiT (e ▸ hj))]
          exact hDl j hj
        · rw [hfillH]
          rcases h3 with ⟨ha, hb, hc⟩ | ⟨ha, hb⟩
          · rcases hw' with ⟨_, hC⟩ | ⟨h', _⟩
            · exact .inl ⟨ha, hC, hc⟩
            · exact absurd ha h'
          · rcases hw' with ⟨h', _⟩ | ⟨_, rfl⟩
            · exact absurd h' ha
            · exact .inr ⟨ha, hb.1.imp id fun h e he => by rw [hset]; simp [h e he], hb.2⟩
      show Op1 P r n ops _ X i s w
      unfold Op1
      simp only [ho]
      rcases hf with ⟨hwt, v, hv, hdv⟩ | ⟨hwf, hdv⟩
      · rw [← hwn, if_pos hwt]
        unfold OpW
        rw [← hsem]
        rcases h3 with ⟨ha, hC, hc⟩ | ⟨ha, hb⟩
        · have hy : Yld P r n C o sT v := by
            split at hv
            · exact Pur.yld hv
            · split at hv
              · exact LdY.yld hCC hv
              · exact hv
          have hyw := hy w hC
          revert hyw
          cases (o.semAt r (rd n sT)).run P w with
          | ok m w' =>
            cases m <;> simp only
            case value u =>
              rintro ⟨rfl, hC'⟩
              exact hnext _ w' hdv (.inl ⟨ha, hC'⟩)
            case enter fn args =>
              intro hcall
              refine hcall.mono fun e w'' ⟨he, hC'⟩ => ?_
              subst he
              exact hnext _ w'' hdv (.inl ⟨ha, hC'⟩)
            all_goals exact fun h => h.elim
          | halt x w' => simp only; exact fun h => h.elim
        · -- behind the first of the tail: it is pure, or a late load
          have hp : isPur o.op = true ∨ E.contains i = true := by
            cases hD : D with
            | nil => exact absurd hD ha
            | cons t l =>
              have htD : t ∈ D := by rw [hD]; exact List.mem_cons_self
              rcases G.head i hH with (⟨o', ho', hp⟩ | hE) | hanc
              · rw [ho] at ho'; cases ho'; exact .inl hp
              · exact .inr hE
              · exfalso
                have hlt := (hDl t (hDT t htD)).2 htD
                have := anc_listed hI.dc ops.size t i (hanc t (hDT t htD)) (fun o' ho' e he hb => hI.dc t o' hlt ho' e he hb)
                rw [h0] at this
                cases this
          have hrun : (o.semAt r (rd n sT)).run P w = .ok (.value v) w := by
            by_cases hp1 : isPur o.op = true
            · rw [if_pos hp1] at hv; exact hv w
            · rw [if_neg hp1, if_pos (hp.resolve_left hp1)] at hv
              rcases hb.1 with hc2 | hall
              · exact hv w hc2
              · exfalso
                have := hall i (by simpa using hp.resolve_left hp1)
                rw [h0] at this
                cases this
          rw [hrun]
          exact hnext _ w hdv (.inr ⟨ha, rfl⟩)
      · rw [← hwn, if_neg (by simp [hwf])]
        refine hnext undef w hdv ?_
        rcases h3 with ⟨ha, hC, hc⟩ | ⟨ha, hb⟩
        · exact .inl ⟨ha, hC⟩
        · exact .inr ⟨ha, rfl⟩
    · -- one of the tail: it is the next
      have hiH : i ∉ H := fun hm => by
        obtain ⟨m1, m2, hk⟩ := List.append_of_mem hTm
        have := (data (H ++ m1) i m2 (by rw [hk]; simp)).1
        simp at this
        exact this.1 hm
      have hiD : i ∉ D := fun h => by
        have := (hDl i hTm).2 h
        rw [h0] at this
        cases this
      have hav : i ∈ avail ops T D := by
        unfold avail
        rw [List.mem_filter]
        refine ⟨hTm, ?_⟩
        simp only [Bool.and_eq_true, Bool.not_eq_true', List.all_eq_true, Bool.or_eq_true]
        refine ⟨by simpa using hiD, fun u hu => ?_⟩
        cases ha : anc ops ops.size i u
        · exact .inl rfl
        · exact .inr (by simpa using (hDl u hu).1 (anc_listed hI.dc ops.size i u ha hpre'))
      obtain ⟨g', rfl⟩ : ∃ g', g = g' + 1 := by
        cases g with
        | zero =>
          exfalso
          have h5 : (i :: D).length ≤ T.length := nodup_le (List.nodup_cons.2 ⟨hiD, hDn⟩) (fun x hx => by
            rcases List.mem_cons.1 hx with rfl | hx
            · exact hTm
            · exact hDT x hx)
          simp at h5
          omega
        | succ g' => exact ⟨g', rfl⟩
      have hC2w : C2 w ∨ ∀ e ∈ E, listed.getD e false = true := by
        rcases h3 with ⟨_, hC, _⟩ | ⟨_, hb, _⟩
        · exact .inl (hCC w hC)
        · exact hb
      have hC2n : ∀ w', (C2 w' ∨ E.all (fun e => (i :: D).any fun t => anc ops ops.size t e) = true) → C2 w' ∨ ∀ e ∈ E, listed.getD e false = true := fun w' h =>
        h.imp id fun h e he => by
          obtain ⟨t, ht, ha⟩ := List.any_eq_true.1 (List.all_eq_true.1 h e he)
          rcases List.mem_cons.1 ht with rfl | ht
          · exact anc_listed hI.dc ops.size t e ha hpre'
          · exact anc_listed hI.dc ops.size t e ha (fun o' ho' x hx hb => hI.dc t o' ((hDl t (hDT t ht)).2 ht) ho' x hx hb)
      have hops : OpsT P r n ops E T C2 (PostX P r n ops B K) X (g' + 1) D (fill ops H sT s) w := by
        rcases h3 with ⟨rfl, hC, hc⟩ | ⟨_, _, hb⟩
        · rw [hc]
          have := hT w hC
          rw [← hg] at this
          simpa using this
        · exact hb
      have hops := hops i hav
      simp only [ho] at hops
      have hnd : ∀ t, o.dst = some t → ¬ ∃ j ∈ H, dstOf ops j = some t := fun t ht ⟨j, hj, hd⟩ => by
        have hne : j ≠ i := fun e => hiH (e ▸ hj)
        exact F.dist j i t hne hd (by rw [hdst, ht])
      have hlook : ∀ t ∈ o.looksAt ops, (fill ops H sT s).t t = s.t t := fun t ht => by
        refine fill_t fun j hj hd => ?_
        obtain ⟨l1, l2, hl⟩ := List.append_of_mem (List.mem_append_right H hTm)
        obtain ⟨_, hje⟩ := (data l1 i l2 hl).2 t j ⟨o, ho, ht⟩ hd
        obtain ⟨e, he, hb, hon⟩ := edge_on hje ho
        exact hI.hb j hj (by rw [← hon]; exact hpre e he hb) t hd
      -- behind the tail: the followers and what is left of the heads
      have phase2 : ∀ (s' : St) w', (∀ t, o.dst ≠ some t → s'.t t = s.t t) → (∀ t ∈ T, t ∈ i :: D) → (C2 w' ∨ ∀ e ∈ E, listed.getD e false = true) → PostX P r n ops B K (fill ops H sT s') w' → AnyO P r n ops K X f (listed.setIfInBounds i true) s' w' := fun s' w' hs' hT2' hc2w' ho' => by
        have hTn : ∀ j ∈ T, ∀ d, dstOf ops j = some d → (fill ops H sT s').t d = s'.t d := fun j hj d hd => by
          refine fill_t fun q hq hqd => ?_
          exfalso
          have hqj : q ≠ j := by
            rintro rfl
            obtain ⟨m1, m2, hm⟩ := List.append_of_mem hj
            have := (data (H ++ m1) q m2 (by rw [hm]; simp)).1
            simp at this
            exact this.1 hq
          exact F.dist q j d hqj hqd hd
        have hHf : ∀ j ∈ H, ∀ d, dstOf ops j = some d → (fill ops H sT s').t d = sT.t d := fun j hj d hd => by
          simp only [fill]
          rw [if_pos ⟨j, hj, hd⟩]
        have hs'H : ∀ j ∈ H, listed.getD j false = true → ∀ d, dstOf ops j = some d → s'.t d = sT.t d := fun j hj hl d hd => by
          rw [hs' d (fun e => hnd d e ⟨j, hj, hd⟩)]
          exact hI.hb j hj hl d hd
        have hTl : ∀ j ∈ T, (listed.setIfInBounds i true).getD j false = true := fun j hj => by
          rw [hset]
          by_cases hji : j = i
          · rw [if_pos hji]
          · rw [if_neg hji]
            rcases List.mem_cons.1 (hT2' j hj) with h4 | h4
            · exact absurd h4 hji
            · exact (hDl j hj).2 h4
        obtain ⟨done', T', rest', w0', R', sT', hI'⟩ := grow_adv (K := K) F [(B, [])] (H ++ T) w' (fill ops H sT s') (listed.setIfInBounds i true) s' w' (by simpa using hI.sz) hdc' (by simp [flatS]) (by simp [segsOk, flatS]) (g_end ho') (.refl _ _)
          (fun j hj hl => by
            rcases List.mem_append.1 hj with hj | hj
            · obtain ⟨q, hq, hf⟩ := hfact j hj
              have hji : j ≠ i := fun e => hiH (e ▸ hj)
              rw [hset, if_neg hji] at hl
              have hlk : ∀ t ∈ q.looksAt ops, sT.t t = (fill ops H sT s').t t := fun t ht => by
                by_cases hx : ∃ z, dstOf ops z = some t
                · obtain ⟨z, hz⟩ := hx
                  obtain ⟨m1, m2, hm⟩ := List.append_of_mem hj
                  have hzm := ((data m1 j (m2 ++ T) (by rw [hm]; simp)).2 t z ⟨q, hq, ht⟩ hz).1
                  exact (hHf z (by rw [hm]; exact List.mem_append_left _ hzm) t hz).symm
                · simp only [fill]
                  rw [if_neg (fun ⟨z, _, hz⟩ => hx ⟨z, hz⟩), hs' t (fun e => hx ⟨i, by rw [hdst]; exact e⟩)]
                  exact (hI.hc t fun z hz => hx ⟨z, hz⟩).symm
              have hsem : q.semAt r (rd n sT) = q.semAt r (rd n (fill ops H sT s')) := semAt_congr ops (F.plain j q hq) hlk
              have hwn : Region.wanted q (yieldedE ops n sT) = Region.wanted q (yieldedE ops n (fill ops H sT s')) := wanted_congr ops hlk
              have hdq : ∀ d, q.dst = some d → (fill ops H sT s').t d = sT.t d := fun d hd => hHf j hj d (by simp [dstOf, hq, hd])
              refine ⟨q, hq, ?_⟩
              rcases hf with ⟨hwt, v, hv, hdv⟩ | ⟨hwf, hdv⟩
              · refine .inl ⟨by rw [← hwn]; exact hwt, v, fun w2 hw2 => ?_, fun d hd => by rw [hdq d hd]; exact hdv d hd⟩
                refine runG_val ?_ (.refl _ _) rfl
                rw [← hsem]
                have hp : isPur q.op = true ∨ E.contains j = true := by
                  rcases G.head j hj with (⟨q', hq', hp⟩ | hE) | hanc
                  · rw [hq] at hq'; cases hq'; exact .inl hp
                  · exact .inr hE
                  · exfalso
                    have := anc_listed hI.dc ops.size i j (hanc i hTm) hpre'
                    rw [hl] at this
                    cases this
                by_cases hp1 : isPur q.op = true
                · rw [if_pos hp1] at hv; exact hv w2
                · rw [if_neg hp1, if_pos (hp.resolve_left hp1)] at hv
                  rcases hc2w' with hc2 | hall
                  · exact hv w2 (hCx _ _ hc2 hw2)
                  · exfalso
                    have := hall j (by simpa using hp.resolve_left hp1)
                    rw [hl] at this
                    cases this
              · exact .inr ⟨by rw [← hwn]; exact hwf, fun d hd => by rw [hdq d hd]; exact hdv d hd⟩
            · rw [hTl j hj] at hl; cases hl)
          (fun j hj hl d hd => by
            rcases List.mem_append.1 hj with hj | hj
            · rw [hHf j hj d hd]
              have hji : j ≠ i := fun e => hiH (e ▸ hj)
              rw [hset, if_neg hji] at hl
              exact hs'H j hj hl d hd
            · exact (hTn j hj d hd).symm)
          (fun t ht => by
            simp only [fill]
            split
            · rename_i hx
              obtain ⟨q, _, hq⟩ := hx
              exact absurd hq (ht q)
            · rfl) rfl
          (fun j hj => by
            have hj : j ∈ B := by simpa [flatS] using hj
            have hji : j ≠ i := by
              rintro rfl
              obtain ⟨m1, m2, rfl⟩ := List.append_of_mem hj
              have := (F.data (H ++ T ++ m1) j m2 (by simp)).1
              exact this (List.mem_append_left _ (List.mem_append_right _ hTm))
            rw [hset, if_neg hji]
            cases hl : listed.getD j false
            · rfl
            · exfalso
              have := anc_listed hI.dc ops.size j i (G.post j hj i hTm) (fun o' ho' e he hb => hI.dc j o' hl ho' e he hb)
              rw [h0] at this
              cases this)
        exact grow_any F hX f _ s' w' done' T' rest' w0' R' sT' hu' hI'
      have hnext : ∀ (s' : St) w', (∀ t, o.dst ≠ some t → s'.t t = s.t t) → (C2 w' ∨ ∀ e ∈ E, listed.getD e false = true) → OpsT P r n ops E T C2 (PostX P r n ops B K) X g' (i :: D) (fill ops H sT s') w' → AnyO P r n ops K X f (listed.setIfInBounds i true) s' w' := fun s' w' hs' hc2 ho' => by
        have hnd' : (i :: D).Nodup := List.nodup_cons.2 ⟨hiD, hDn⟩
        have hsub' : ∀ j ∈ i :: D, j ∈ T := fun j hj => by
          rcases List.mem_cons.1 hj with rfl | hj
          · exact hTm
          · exact hDT j hj
        by_cases hg0 : g' = 0
        · subst hg0
          refine phase2 s' w' hs' (fun t ht => ?_) hc2 ho'
          refine Classical.byContradiction fun hn => ?_
          have h5 : (t :: i :: D).length ≤ T.length := nodup_le (List.nodup_cons.2 ⟨hn, hnd'⟩) (fun x hx => by
            rcases List.mem_cons.1 hx with rfl | hx
            · exact ht
            · exact hsub' x hx)
          simp at h5
          omega
        refine ih _ _ _ hu' ⟨by simpa using hI.sz, hdc', fun j hj hl d hd => ?_, fun t ht => ?_, i :: D, g', by simp; omega, hnd', hsub', fun j hj => ?_, .inr ⟨by simp, hc2.imp id fun h e he => by rw [hset]; simp [h e he], ho'⟩⟩ (by
          refine Classical.byContradiction fun hn => ?_
          have hall : ∀ t ∈ T, t ∈ i :: D := fun t ht => by
            have h6 : (listed.setIfInBounds i true).getD t false = true := by
              cases h7 : (listed.setIfInBounds i true).getD t false
              · exact absurd ⟨t, ht, h7⟩ hn
              · rfl
            rw [hset] at h6
            by_cases hti : t = i
            · rw [hti]; exact List.mem_cons_self
            · rw [if_neg hti] at h6
              exact List.mem_cons_of_mem _ ((hDl t ht).1 h6)
          have h5 := nodup_le hTn hall
          simp at h5
          omega)
        · have hji : j ≠ i := fun e => hiH (e ▸ hj)
          rw [hset, if_neg hji] at hl
          rw [hs' d (fun e => hnd d e ⟨j, hj, hd⟩)]
          exact hI.hb j hj hl d hd
        · rw [hs' t (fun e => ht i (by rw [hdst, e]))]
          exact hI.hc t ht
        · rw [hset]
          by_cases hji : j = i
          · rw [if_pos hji, hji]; simp
          · rw [if_neg hji, hDl j hj]
            simp [hji]
      show Op1 P r n ops _ X i s w
      unfold Op1
      simp only [ho]
      have hwn : Region.wanted o (yieldedE ops n (fill ops H sT s)) = Region.wanted o (yieldedE ops n s) := wanted_congr ops hlook
      rw [hwn] at hops
      split
      · rename_i hw
        rw [if_pos hw] at hops
        refine opW_transfer ops (F.plain i o ho) hlook (fun v w' h => ?_) (fun d v w' h => ?_) (fun c w' h => hX _ _ _ _ h) hops
        · refine hnext _ _ (fun t ht => put_t ht) (hC2n _ h.1) ?_
          rw [← fill_put_tail hnd]; exact h.2
        · refine hnext _ _ (fun t ht => put_t ht) (hC2n _ h.1) ?_
          have e1 : (({ fill ops H sT s with d := d :: (fill ops H sT s).d } : St)) = fill ops H sT { s with d := d :: s.d } := rfl
          rw [e1] at h
          rw [← fill_put_tail hnd]; exact h.2
      · rename_i hw
        rw [if_neg hw] at hops
        refine hnext _ _ (fun t ht => put_t ht) hC2w ?_
        rw [← fill_put_tail hnd]; exact hops
    · -- a follower cannot come before the tail's end
      exfalso
      obtain ⟨t, ht, hl⟩ := hne
      have := anc_listed hI.dc ops.size i t (G.post i hB t ht) hpre'
      rw [hl] at this
      cases this


theorem w_treeX {id : Nat} {Q : Exit → St → World → Prop} {s : St} {w : World} (H E T B : List Nat) (C C2 : World → Prop) (hm : P.follows .mixedOrders = true) (hchk : treeOkX ops H E T B = true) (hX : ∀ c s s' w, Q (.panic c) s w → Q (.panic c) s' w) (hC : ∀ w', To w w' w.heap → C w') (hCC : ∀ w', C w' → C2 w') (hCx : ∀ w w', C2 w → Ext w w' → C2 w')
    (h : OpsQ P r n ops E C C2 (fun sT => ∀ w', C w' → OpsT P r n ops E T C2 (PostX P r n ops B (Q .normal)) (fun c => Q (.panic c)) T.length [] sT w') H s) : W P r n (.region id ops true) Q s w := by
  obtain ⟨F, G, hTn⟩ := treeFX hchk
  refine w_region_any hm fun w' hw' => ?_
  obtain ⟨sT, h1, h2, h3, h4⟩ := opsQ_factsP F H [] (T ++ B) (by simp) s h
  refine inv_treeX F G hTn hX h4 hCC hCx h1 ops.size _ s w' ?_ ⟨by simp, fun i o hi => ?_, fun j _ hl => ?_, fun t ht => (h2 t fun j _ => ht j).symm, [], T.length, by simp, List.nodup_nil, (fun j hj => nomatch hj), (fun j hj => ?_), .inl ⟨rfl, hC w' hw', ?_⟩⟩ ?_
  · unfold unl
    exact Nat.le_trans (List.length_filter_le _ _) (by simp)
  · exfalso; simp [Array.getD] at hi
  · exfalso; simp [Array.getD] at hl
  · simp [Array.getD]
  · refine St.ext (fun t => ?_) ?_
    · simp only [fill]
      split
      · rfl
      · rename_i hx
        exact (h2 t fun j hj hd => hx ⟨j, hj, hd⟩).symm
    · simp only [fill]; exact h3.symm
  · cases hT : T with
    | nil => exact absurd hT G.ne
    | cons t l => exact ⟨t, List.mem_cons_self, by simp [Array.getD]⟩

theorem wk_treeX {id : Nat} {ol : List Oper} {K : St → World → Prop} {Q : Ex} {s : St} {w : World} (H E T B : List Nat) (C C2 : World → Prop) (hm : P.follows .mixedOrders = true) (hchk : treeOkX ol.toArray H E T B = true) (hX : ∀ c s s' w, Q (.panic c) s w → Q (.panic c) s' w) (hC : ∀ w', To w w' w.heap → C w') (hCC : ∀ w', C w' → C2 w') (hCx : ∀ w w', C2 w → Ext w w' → C2 w')
    (h : OpsQ P r n ol.toArray E C C2 (fun sT => ∀ w', C w' → OpsT P r n ol.toArray E T C2 (PostX P r n ol.toArray B K) (fun c => Q (.panic c)) T.length [] sT w') H s) : WK P r n (.region id ol.toArray true) K Q s w := by
  unfold WK
  exact w_treeX H E T B C C2 hm hchk hX hC hCC hCx h

end
end Go.Pd
