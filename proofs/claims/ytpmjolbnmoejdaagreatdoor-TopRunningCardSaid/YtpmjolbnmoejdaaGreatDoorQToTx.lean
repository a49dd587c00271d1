/-
  Matters: the text (what matters is whether there is an error).
-/
import Derived.Test.YtpmjolbnmoejdaaGreatDoorQToU
import Derived.Test.YtpmjolbnmoejdaaGreatDoorQToSh
set_option linter.unusedVariables false
set_option linter.unusedSimpArgs false
set_option linter.unnecessarySimpa false
set_option maxRecDepth 10000
namespace Go.Top
open Go.Fin (Nm)
theorem sorted_between : ∀ (l : List Int) (a : Int), sortedI (a :: l) = true → ∀ z ∈ a :: l, a ≤ z ∧ z ≤ (a :: l).getLastD 0
  | [], a, _, z, hz => by
    rw [List.mem_singleton] at hz
    subst hz
    exact ⟨Int.le_refl _, Int.le_refl _⟩
  | b :: r, a, h, z, hz => by
    unfold sortedI at h
    rw [Bool.and_eq_true, decide_eq_true_eq] at h
    have ih := sorted_between r b h.2
    have hl : (a :: b :: r).getLastD 0 = (b :: r).getLastD 0 := rfl
    rw [hl]
    rcases List.mem_cons.1 hz with rfl | hz
    · have := ih b List.mem_cons_self
      omega
    · have := ih z hz
      omega
structure FormOK (m : Mat) : Prop where
  id : m.id.length ≤ 24
  proc : m.proc.length ≤ 24
  opened : 0 ≤ m.opened ∧ m.opened ≤ 1000000
  stage : 0 ≤ m.stage ∧ m.stage < 60
  cas : ∀ z ∈ m.cas, 0 ≤ z ∧ z ≤ 1000000
  casL : m.cas.length ≤ 60
  moved : ∀ z ∈ m.moved, 0 ≤ z ∧ z ≤ 1000000
  movedL : m.moved.length ≤ 60
  rights : ∀ r ∈ m.rights, r.name.length ≤ 24 ∧ 0 ≤ r.since ∧ r.since ≤ 1000000
  rightsL : m.rights.length ≤ 60
  limits : ∀ l ∈ m.limits, l.id.length ≤ 24 ∧ (0 ≤ l.n ∧ l.n ≤ 1000000) ∧ (0 ≤ l.u ∧ l.u ≤ 1000000) ∧ (0 ≤ l.f ∧ l.f ≤ 1000000) ∧ l.st.length ≤ 60 ∧ ∀ s ∈ l.st, (0 ≤ s.a ∧ s.a ≤ 1000000) ∧ 0 ≤ s.b ∧ s.b ≤ 1000000
  limitsL : m.limits.length ≤ 60
theorem nm_len {s : Tx} (h : Nm s = true) : s.length ≤ 24 := by
  unfold Nm at h
  simp only [Bool.and_eq_true, decide_eq_true_eq] at h
  exact h.2.2.1
theorem prop_facts {l : Lim} (h : properB l = true) : l.id.length ≤ 24 ∧ (0 ≤ l.n ∧ l.n ≤ 1000000) ∧ (0 ≤ l.u ∧ l.u ≤ 1000000) ∧ (0 ≤ l.f ∧ l.f ≤ 1000000) ∧ l.st.length ≤ 60 ∧ ∀ s ∈ l.st, (0 ≤ s.a ∧ s.a ≤ 1000000) ∧ 0 ≤ s.b ∧ s.b ≤ 1000000 := by
  simp only [properB, isD, termB, Bool.and_eq_true, decide_eq_true_eq] at h
  obtain ⟨⟨⟨⟨h1, h2⟩, h3⟩, h4⟩, h5⟩ := h
  refine ⟨nm_len h1, by omega, by omega, h2, h4, fun s hs => ?_⟩
  have := List.all_eq_true.1 h5 s hs
  simp only [stopB, decide_eq_true_eq] at this
  omega
theorem form_facts {m : Mat} (h : formB m = true) : FormOK m := by
  simp only [formB, diffB, isD, Bool.and_eq_true, decide_eq_true_eq] at h
  obtain ⟨⟨⟨⟨⟨⟨⟨⟨h1, h2⟩, h3⟩, h4⟩, h5⟩, h6⟩, h7⟩, h8⟩, ⟨⟨h9, -⟩, h10⟩, ⟨h11, -⟩, h12⟩ := h
  refine ⟨nm_len h1, nm_len h2, h3, h4, fun z hz => ?_, h6, fun z hz => ?_, h8, fun r hr => ?_, h10, fun l hl => prop_facts (List.all_eq_true.1 h11 l hl), h12⟩
  · have := List.all_eq_true.1 h5 z hz
    simpa using this
  · unfold movedB at h7
    simp only [isD, Bool.and_eq_true, Bool.or_eq_true, decide_eq_true_eq] at h7
    cases hm : m.moved with
    | nil => rw [hm] at hz; cases hz
    | cons a l =>
      rw [hm] at h7 hz
      have h13 := sorted_between l a h7.1 z hz
      obtain h14 | h14 := h7.2
      · cases h14
      · have : (a :: l).headD 0 = a := rfl
        rw [this] at h14
        omega
  · have := List.all_eq_true.1 h9 r hr
    simp only [rightB, isD, Bool.and_eq_true, decide_eq_true_eq] at this
    exact ⟨nm_len this.1.1, this.2⟩
end Go.Top
namespace Go.Proofs
open Go Go.Pd Go.Top
attribute [local irreducible] OpsL W RetQ OpsQ OpsC
theorem IsB.lt {b : Nat} {t : Tx} {w : World} (h : IsB b t w) : b < w.heap.size := by
  rcases h.1 with ⟨-, v, h1, -⟩ | ⟨-, v, h1, -⟩ <;> exact (Array.getElem?_eq_some_iff.1 h1).1
theorem lit_keep {b bs : Nat} {vs : List Value} {n : Nat} {w : World} (hb : w.heap[bs]? = some (.cells vs.toArray 3 (0, 0))) (hne : bs ≠ b) (hn : vs.length = n) : ∀ w', Keep b w w' → Sl w' (.slice (some ⟨bs, 0, none⟩) n n) 1 vs := fun w' k => by
  have h1 := k.others bs _ hb (fun h => hne (by cases h; rfl)) (fun c fz h => by cases h)
  refine .mk (by omega) (Nat.le_refl _) (Row.of_block h1 fun i u hi => ?_)
  simpa using hi
theorem acc_keep {b m : Nat} {v : Value} {xs : List Value} {acc bl : List (Nat × Obj)} {w0 w : World} (hl : LH w0 (fun _ => False) w (bl ++ acc)) (ha : Acc v 1 3 m xs acc) (hb : b < w0.heap.size) : ∀ w', Keep b w w' → Sl w' v 1 xs := fun w' k => by
  rcases ha.2 with ⟨rfl, rfl, rfl⟩ | ⟨b2, cap, cur, rfl, rfl, h1, h2, h3, h4⟩
  · exact .inl ⟨rfl, List.eq_nil_of_length_eq_zero (by simpa using ha.1)⟩
  · refine .mk ha.1 h1 ?_
    have hb2 : w.heap[b2]? = some (.cells cur 3 (0, 0)) := hl.own (b2, .cells cur 3 (0, 0)) (by simp)
    have hf := hl.fresh (b2, .cells cur 3 (0, 0)) (by simp)
    have hb3 := k.others b2 _ hb2 (fun h => by cases h; exact hf.elim (fun hf => absurd hb (by simp only at hf; omega)) id) (fun c fz h => by cases h)
    refine Row.of_block hb3 fun i u hi => ?_
    rw [← h4, List.getElem?_take] at hi
    split at hi
    · simpa using hi
    · cases hi
set_option maxHeartbeats 2000000 in
theorem line_calls {b : Nat} {t s : Tx} {l : List Int} {lv : Value} {w0 w : World} (h : IsB b t w) (hb : w0.heap.size ≤ b) (e0 : Ext w0 w) (ht : Tabs w0) (hs : ∀ w', Keep b w w' → Sl w' lv 1 (l.flatMap intL)) (hn : l.length ≤ 1000) (hz : ∀ z ∈ l, 0 ≤ z ∧ z ≤ 1000000) (hlen : t.length + s.length + 22 * l.length + 1 ≤ 1000000000) :
    Calls Tryz.prog 42 #[str s, lv, .pointer (some ⟨b, 0, none⟩)] w (fun e w' => ∃ v, e = .returned v ∧ ∃ t' : Tx, v = .tuple #[] ∧ IsB b t' w' ∧ t'.length ≤ t.length + s.length + 22 * l.length + 1 ∧ Keep b w w') := by
  obtain ⟨la, lc, rfl, -⟩ := sl_each intL_len (by decide) (hs w (.refl _ _))
  have hrow : ∀ w', Keep b w w' → ∀ i (hi : i < l.length), ∃ bb o, la = some ⟨bb, o, none⟩ ∧ Row w' bb (o + i * 1) [.int .i64 l[i]] := fun w' k i hi => by
    obtain ⟨a2, c2, h1, h2⟩ := sl_each intL_len (by decide) (hs w' k)
    cases h1
    obtain ⟨bb, o, h3, h4⟩ := h2 i hi
    exact ⟨bb, o, h3, h4 w' (.refl _ _)⟩
  refine calls_of Tryz.func42 rfl Tryz.ntmps42 rfl ?_
  repeat' (first | refine a_mov ?_ | refine a_asg ?_ | refine a_binN ?_ | refine a_lenv ?_ | (refine o_nil (hK _ _ ?_); clear hK K) | refine wk_reg ?_ | refine wk_seq fun K hK => ?_ | (refine wk_skip (hK _ _ ?_); clear hK K) | refine wk_block ?_ | refine wk_cond_t rfl ?_ | refine wk_cond_f rfl ?_ | (refine wk_exit ?_; (repeat (refine blockK_other rfl ?_)); refine blockK_same ?_; try ((repeat ((fail_if_success (refine hK _ _ ?_)); clear hK K)); refine hK _ _ ?_; clear hK K)) | (refine a_bin ?_ ?_ <;> intro _ <;> try (exfalso; omega)) | fail)
  refine a_fn (wstr_calls (s := s) h (by omega)) ?_
  rintro v w1 ⟨h1, k1⟩
  repeat' (first | refine a_mov ?_ | refine a_asg ?_ | refine a_binN ?_ | refine a_lenv ?_ | (refine o_nil (hK _ _ ?_); clear hK K) | refine wk_reg ?_ | refine wk_seq fun K hK => ?_ | (refine wk_skip (hK _ _ ?_); clear hK K) | refine wk_block ?_ | refine wk_cond_t rfl ?_ | refine wk_cond_f rfl ?_ | (refine wk_exit ?_; (repeat (refine blockK_other rfl ?_)); refine blockK_same ?_; try ((repeat ((fail_if_success (refine hK _ _ ?_)); clear hK K)); refine hK _ _ ?_; clear hK K)) | (refine a_bin ?_ ?_ <;> intro _ <;> try (exfalso; omega)) | fail)
  refine wk_loopH [] rfl (fun i : Nat => [(2, .pointer (some ⟨b, 0, none⟩)), (9, .slice la l.length lc), (10, .int .i64 (l.length : Int)), (11, .int .i64 (i : Int))])
    (fun i w' => i ≤ l.length ∧ Keep b w w' ∧ ∃ t' : Tx, IsB b t' w' ∧ t'.length ≤ t.length + s.length + 22 * i) (fun i => l.length - i) 0 ⟨rfl, rfl, rfl, rfl, trivial⟩ ⟨Nat.zero_le _, k1, _, h1, by simp⟩ ?_
  rintro i t1 w2 ⟨hi, k2, t2, h2, hl2⟩
  by_cases hlt : i < l.length
  · obtain ⟨bb, o, hp, hr⟩ := hrow w2 k2 i hlt
    have hzi := hz _ (List.getElem_mem hlt)
    repeat' (first | refine a_mov ?_ | refine a_asg ?_ | refine a_binN ?_ | refine a_lenv ?_ | (refine o_nil (hK _ _ ?_); clear hK K) | refine wk_reg ?_ | refine wk_seq fun K hK => ?_ | (refine wk_skip (hK _ _ ?_); clear hK K) | refine wk_block ?_ | refine wk_cond_t rfl ?_ | refine wk_cond_f rfl ?_ | (refine wk_exit ?_; (repeat (refine blockK_other rfl ?_)); refine blockK_same ?_; try ((repeat ((fail_if_success (refine hK _ _ ?_)); clear hK K)); refine hK _ _ ?_; clear hK K)) | (refine a_bin ?_ ?_ <;> intro _ <;> try (exfalso; omega)) | refine a_idx (c := 1) i hp ?_ | refine a_row hr ?_ | fail)
    refine a_fn (itoa_calls hzi.1 hzi.2 (ht.ext (k2.ext hb e0))) ?_
    rintro v w3 ⟨⟨ds, hds, rfl⟩, e3⟩
    have h3 := h2.ext e3
    have k3 := k2.trans (.of_ext h2.2 e3)
    repeat' (first | refine a_mov ?_ | refine a_asg ?_ | refine a_binN ?_ | refine a_lenv ?_ | (refine a_bin ?_ ?_ <;> intro _ <;> try (exfalso; omega)) | fail)
    refine o_cat (a := [32]) (b := ds) (by simp; omega) rfl (by simp only [str_eq]; rfl) rfl ?_
    refine a_fn (wstr_calls (s := [32] ++ ds) h3 (by simp; omega)) ?_
    rintro v w4 ⟨h4, k4⟩
    repeat' (first | refine a_mov ?_ | refine a_asg ?_ | refine a_binN ?_ | refine a_lenv ?_ | (refine o_nil (hK _ _ ?_); clear hK K) | refine wk_reg ?_ | refine wk_seq fun K hK => ?_ | (refine wk_skip (hK _ _ ?_); clear hK K) | refine wk_block ?_ | refine wk_cond_t rfl ?_ | refine wk_cond_f rfl ?_ | (refine wk_exit ?_; (repeat (refine blockK_other rfl ?_)); refine blockK_same ?_; try ((repeat ((fail_if_success (refine hK _ _ ?_)); clear hK K)); refine hK _ _ ?_; clear hK K)) | (refine a_bin ?_ ?_ <;> intro _ <;> try (exfalso; omega)) | fail)
    refine o_nil ⟨i + 1, ⟨rfl, rfl, rfl, rfl, trivial⟩, rfl, ⟨hlt, k3.trans k4, _, h4, by simp; omega⟩, by omega⟩
  · obtain rfl : i = l.length := by omega
    repeat' (first | refine a_mov ?_ | refine a_asg ?_ | refine a_binN ?_ | refine a_lenv ?_ | (refine o_nil (hK _ _ ?_); clear hK K) | refine wk_reg ?_ | refine wk_seq fun K hK => ?_ | (refine wk_skip (hK _ _ ?_); clear hK K) | refine wk_block ?_ | refine wk_cond_t rfl ?_ | refine wk_cond_f rfl ?_ | (refine wk_exit ?_; (repeat (refine blockK_other rfl ?_)); refine blockK_same ?_; try ((repeat ((fail_if_success (refine hK _ _ ?_)); clear hK K)); refine hK _ _ ?_; clear hK K)) | (refine a_bin ?_ ?_ <;> intro _ <;> try (exfalso; omega)) | fail)
    refine a_fn (wbyte_calls (c := 10) (by decide) h2 (by omega)) ?_
    rintro v w3 ⟨h3, k3⟩
    refine o_nil (retQ_tmp0 rfl rfl ⟨_, rfl, h3, by simp; omega, k2.trans k3⟩)

def LineOut (b : Nat) (k : Nat) (w : World) (v : Value) (w' : World) : Prop := ∃ t' : Tx, v = .tuple #[] ∧ IsB b t' w' ∧ t'.length ≤ k ∧ Keep b w w'
theorem lineF {b : Nat} {t s : Tx} {l : List Int} {lv : Value} {w0 w : World} (h : IsB b t w) (hb : w0.heap.size ≤ b) (e0 : Ext w0 w) (ht : Tabs w0) (hs : ∀ w', Keep b w w' → Sl w' lv 1 (l.flatMap intL)) (hz : ∀ z ∈ l, 0 ≤ z ∧ z ≤ 1000000) (k n : Nat) (hn : l.length ≤ n) (hn2 : n ≤ 1000) (hlen : t.length + s.length + 22 * n + 1 ≤ k) (hk : k ≤ 1000000000) :
    CallF Tryz.prog (.func (.func 42) #[] #[.pointer (some ⟨b, 0, none⟩)]) #[str s, lv] w (LineOut b k w) :=
  ⟨_, _, _, rfl, fun _ => rfl, (line_calls h hb e0 ht hs (by omega) hz (by omega)).mono fun e w' ⟨v, h1, t', h2, h3, h4, h5⟩ => ⟨v, h1, t', h2, h3, by omega, h5⟩⟩
theorem itoaX_calls {d : Int} (h0 : 0 ≤ d) (h1 : d ≤ 1000000) {w : World} (ht : Tabs w) : Calls Tryz.prog 44 #[.int .i64 d] w (fun e w' => ∃ v, e = .returned v ∧ v = str (Lib.itoa d) ∧ Ext w w') := by
  refine Calls.mono (Tryz.strconv_Itoa d (by omega) (by omega) w ht) ?_
  rintro e w' ⟨rfl, k, os, rfl⟩
  exact ⟨_, rfl, by rw [str_eq], ext_grow⟩
def matterS : Tx := [109, 97, 116, 116, 101, 114, 32]
def rightS : Tx := [114, 105, 103, 104, 116, 32]
def limitS : Tx := [108, 105, 109, 105, 116, 32]
set_option maxHeartbeats 8000000 in
theorem text_calls {m : Mat} {x : MV} {w : World} (h : MatIn w m x) (ht : Tabs w) : Calls Tryz.prog 17 #[.agg (matL m x).toArray] w (fun e w' => ∃ v, e = .returned v ∧ (∃ s : Tx, v = .tuple #[str s, .int .i64 (if formB m then 0 else 1)]) ∧ Ext w w') := by
  obtain ⟨ra, rc, hxr, -⟩ := sl_each rightL_len (by decide) h.2.2.1.1
  obtain ⟨xc, xm, xr, xl⟩ := x
  simp only at hxr
  subst hxr
  obtain ⟨lp, hlp, hlsl, hlim⟩ := h.2.2.2.1
  obtain ⟨la, lc, hxl, -⟩ := sl_each limL_len (by decide) hlsl
  simp only at hxl
  subst hxl
  have hlpl : lp.length = m.limits.length := by rw [← hlp, List.length_map]
  generalize hx : (⟨xc, xm, .slice ra m.rights.length rc, .slice la lp.length lc⟩ : MV) = x at *
  have hxc : x.c = xc := by rw [← hx]
  have hxm : x.mv = xm := by rw [← hx]
  have hxr : x.r = .slice ra m.rights.length rc := by rw [← hx]
  have hxl : x.l = .slice la lp.length lc := by rw [← hx]
  clear hx
  refine calls_of Tryz.func17 rfl Tryz.ntmps17 rfl ?_
  repeat' (first | refine a_mov ?_ | refine a_asg ?_ | refine a_binN ?_ | refine a_notb ?_ | refine a_fa ?_ | refine a_lenv ?_ | (refine o_nil (hK _ _ ?_); clear hK K) | refine wk_reg ?_ | refine wk_seq fun K hK => ?_ | (refine wk_skip (hK _ _ ?_); clear hK K) | refine wk_block ?_ | refine wk_cond_t rfl ?_ | refine wk_cond_f rfl ?_ | (refine wk_exit ?_; (repeat (refine blockK_other rfl ?_)); refine blockK_same ?_; try ((repeat ((fail_if_success (refine hK _ _ ?_)); clear hK K)); refine hK _ _ ?_; clear hK K)) | (refine a_bin ?_ ?_ <;> intro _ <;> try (exfalso; omega)) | fail)
  refine o_box (LH.start w (fun _ => False)) (matL m x) (by rfl) rfl rfl ?_
  intro b1 w1 hb1 hl
  repeat' (first | refine a_mov ?_ | refine a_asg ?_ | refine a_binN ?_ | refine a_notb ?_ | refine a_fa ?_ | refine a_lenv ?_ | (refine o_nil (hK _ _ ?_); clear hK K) | refine wk_reg ?_ | refine wk_seq fun K hK => ?_ | (refine wk_skip (hK _ _ ?_); clear hK K) | refine wk_block ?_ | refine wk_cond_t rfl ?_ | refine wk_cond_f rfl ?_ | (refine wk_exit ?_; (repeat (refine blockK_other rfl ?_)); refine blockK_same ?_; try ((repeat ((fail_if_success (refine hK _ _ ?_)); clear hK K)); refine hK _ _ ?_; clear hK K)) | (refine a_bin ?_ ?_ <;> intro _ <;> try (exfalso; omega)) | refine a_all (vs := matL m x) (hl.rowL 0 0 8 rfl) ?_ | fail)
  have hrow : Row w1 b1 0 [str m.id, .int .i64 m.opened, x.c, str m.proc, .int .i64 m.stage, x.mv, x.r, x.l] := hl.rowL (vs := matL m x) 0 0 8 rfl
  rw [hxr, hxl] at hrow
  have e1 : Ext w w1 := hl.done
  clear hl
  refine a_fn (formed_calls (h.ext e1)) ?_
  rintro v w2 ⟨rfl, e2⟩
  replace hrow := hrow.ext e2
  replace e2 := e1.trans e2
  cases hf : formB m
  · repeat' (first | refine a_mov ?_ | refine a_asg ?_ | refine a_binN ?_ | refine a_notb ?_ | refine a_fa ?_ | refine a_lenv ?_ | (refine o_nil (hK _ _ ?_); clear hK K) | refine wk_reg ?_ | refine wk_seq fun K hK => ?_ | (refine wk_skip (hK _ _ ?_); clear hK K) | refine wk_block ?_ | refine wk_cond_t rfl ?_ | refine wk_cond_f rfl ?_ | (refine wk_exit ?_; (repeat (refine blockK_other rfl ?_)); refine blockK_same ?_; try ((repeat ((fail_if_success (refine hK _ _ ?_)); clear hK K)); refine hK _ _ ?_; clear hK K)) | (refine a_bin ?_ ?_ <;> intro _ <;> try (exfalso; omega)) | fail)
    refine wk_ret (retQ_tmp2 Tryz.results17 (by decide) (by decide) rfl (by conv => lhs; whnf) (by conv => lhs; whnf) ?_)
    exact ⟨⟨[], by rw [str_eq, hf]; rfl⟩, e2⟩
  have ok := form_facts hf
  replace h := h.ext e2
  replace ht := ht.ext e2
  repeat' (first | refine a_mov ?_ | refine a_asg ?_ | refine a_binN ?_ | refine a_notb ?_ | refine a_fa ?_ | refine a_lenv ?_ | (refine o_nil (hK _ _ ?_); clear hK K) | refine wk_reg ?_ | refine wk_seq fun K hK => ?_ | (refine wk_skip (hK _ _ ?_); clear hK K) | refine wk_block ?_ | refine wk_cond_t rfl ?_ | refine wk_cond_f rfl ?_ | (refine wk_exit ?_; (repeat (refine blockK_other rfl ?_)); refine blockK_same ?_; try ((repeat ((fail_if_success (refine hK _ _ ?_)); clear hK K)); refine hK _ _ ?_; clear hK K)) | (refine a_bin ?_ ?_ <;> intro _ <;> try (exfalso; omega)) | fail)
  refine o_alloc (LH.start w2 (fun _ => False)) [.pointer none, .slice none 0 0] (by kernel_rfl) rfl ?_
  intro bb w3 hbb hl
  have hib : IsB bb [] w3 := IsB.fresh (hl.get 0 rfl)
  have e3 : Ext w2 w3 := hl.done
  clear hl e1
  repeat' (first | refine a_mov ?_ | refine a_asg ?_ | refine a_binN ?_ | refine a_notb ?_ | refine a_fa ?_ | refine a_lenv ?_ | (refine o_nil (hK _ _ ?_); clear hK K) | refine wk_reg ?_ | refine wk_seq fun K hK => ?_ | (refine wk_skip (hK _ _ ?_); clear hK K) | refine wk_block ?_ | refine wk_cond_t rfl ?_ | refine wk_cond_f rfl ?_ | (refine wk_exit ?_; (repeat (refine blockK_other rfl ?_)); refine blockK_same ?_; try ((repeat ((fail_if_success (refine hK _ _ ?_)); clear hK K)); refine hK _ _ ?_; clear hK K)) | (refine a_bin ?_ ?_ <;> intro _ <;> try (exfalso; omega)) | fail)
  refine o_mf [] [.pointer (some ⟨bb, 0, none⟩)] rfl rfl rfl ?_
  repeat' (first | refine a_mov ?_ | refine a_asg ?_ | refine a_binN ?_ | refine a_notb ?_ | refine a_fa ?_ | refine a_lenv ?_ | (refine o_nil (hK _ _ ?_); clear hK K) | refine wk_reg ?_ | refine wk_seq fun K hK => ?_ | (refine wk_skip (hK _ _ ?_); clear hK K) | refine wk_block ?_ | refine wk_cond_t rfl ?_ | refine wk_cond_f rfl ?_ | (refine wk_exit ?_; (repeat (refine blockK_other rfl ?_)); refine blockK_same ?_; try ((repeat ((fail_if_success (refine hK _ _ ?_)); clear hK K)); refine hK _ _ ?_; clear hK K)) | (refine a_bin ?_ ?_ <;> intro _ <;> try (exfalso; omega)) | fail)
  have hr3 := hrow.ext e3
  have i1 := Lib.itoa_length_le m.opened (by have := ok.opened; omega) (by have := ok.opened; omega)
  have hid := ok.id
  have hpr := ok.proc
  refine wk_last (List.dropLast_concat_getLast (by simp)).symm (by kernel_rfl) ?_
  refine any_grow [([0, 1, 2, 3, 4, 5, 6, 7, 8, 9, 10, 11, 12, 13, 14], [15]), ([], [])] ?_ (fun _ _ _ _ h => by first | exact h | (simp only [BlockK, NoGoto, RetQ] at h)) (by kernel_rfl)
  refine g_one (fun v w' => ∃ bs, v = .slice (some ⟨bs, 0, none⟩) 1 1 ∧ w3.heap.size ≤ bs ∧ w'.heap[bs]? = some (.cells [.int .i64 m.stage].toArray 3 (0, 0))) (fun v w w' ⟨b, h1, h2, h3⟩ e => ⟨b, h1, h2, (e.same b (Array.getElem?_eq_some_iff.1 h3).1 (fun h => h)).trans h3⟩) ?_
  repeat' (first | refine x_mov ?_ | refine x_fa ?_ | refine x_row (fun w_ hw_ => hr3.ext hw_) ?_ | fail)
  refine x_pur (v := str (matterS ++ m.id)) rfl rfl (fun _ => by exact r_cat (a := matterS) (b := m.id) (by simp [matterS]; omega) (by simp only [matterS, str_eq]; rfl) rfl) ?_
  refine x_pur (v := str (matterS ++ m.id ++ [32])) rfl rfl (fun _ => by exact r_cat (a := matterS ++ m.id) (b := [32]) (by simp [matterS]; omega) rfl (by simp only [str_eq]; rfl)) ?_
  repeat' (first | refine x_mov ?_ | refine x_fa ?_ | refine x_row (fun w_ hw_ => hr3.ext hw_) ?_ | fail)
  refine x_fn (v := str (Lib.itoa m.opened)) (fun w_ hw_ => itoaX_calls ok.opened.1 ok.opened.2 ((ht.ext e3).ext hw_)) ?_
  refine x_pur (v := str (matterS ++ m.id ++ [32] ++ Lib.itoa m.opened)) rfl rfl (fun _ => by exact r_cat (a := matterS ++ m.id ++ [32]) (b := Lib.itoa m.opened) (by simp [matterS]; omega) rfl rfl) ?_
  refine x_pur (v := str (matterS ++ m.id ++ [32] ++ Lib.itoa m.opened ++ [32])) rfl rfl (fun _ => by exact r_cat (a := matterS ++ m.id ++ [32] ++ Lib.itoa m.opened) (b := [32]) (by simp [matterS]; omega) rfl (by simp only [str_eq]; rfl)) ?_
  repeat' (first | refine x_mov ?_ | refine x_fa ?_ | refine x_row (fun w_ hw_ => hr3.ext hw_) ?_ | fail)
  refine x_pur (v := str (matterS ++ m.id ++ [32] ++ Lib.itoa m.opened ++ [32] ++ m.proc)) rfl rfl (fun _ => by exact r_cat (a := matterS ++ m.id ++ [32] ++ Lib.itoa m.opened ++ [32]) (b := m.proc) (by simp [matterS]; omega) rfl rfl) ?_
  repeat' (first | refine x_mov ?_ | refine x_fa ?_ | refine x_row (fun w_ hw_ => hr3.ext hw_) ?_ | fail)
  refine x_nil ⟨fun v => p_walk rfl rfl rfl fun w' hw' _ => ?_, fun v w4 hw4 hRv => ?_⟩
  · refine o_buildSlice (LH.start w' (fun _ => False)) [.int .i64 m.stage] rfl rfl (by kernel_rfl) ?_
    intro bs w5 hbs hl
    exact o_nil ⟨_, rfl, hl.done, bs, rfl, Nat.le_trans hw'.size hbs, hl.get 0 rfl⟩
  obtain ⟨bs, rfl, hbs, hcs⟩ := hRv
  refine g_end (x_nil fun w5 hw5 => ?_)
  have hcs5 := (hw5.same bs (Array.getElem?_eq_some_iff.1 hcs).1 (fun h => h)).trans hcs
  have e5 : Ext w3 w5 := hw4.trans hw5
  have hlt3 := hib.lt
  have hib5 := hib.ext e5
  generalize hs1 : matterS ++ m.id ++ [32] ++ Lib.itoa m.opened ++ [32] ++ m.proc = s1
  have hs1l : s1.length ≤ 100 := by rw [← hs1]; simp [matterS]; omega
  clear hs1
  refine a_fw (lineF (l := [m.stage]) (s := s1) hib5 hbb (e3.trans e5) ht (lit_keep hcs5 (by omega) rfl) (fun z hz => by rw [List.mem_singleton.1 hz]; have := ok.stage; omega) 200 1 (by simp) (by omega) (by simp; omega) (by omega)) ?_
  rintro v w6 ⟨t6, rfl, hib6, hlen6, k6⟩
  replace e3 := Keep.ext hbb (e3.trans e5) k6
  clear hib5 hcs5 hcs k6 e5 hw5 hw4 hr3
  refine o_nil (hK _ _ ?_)
  clear hK K
  have hr6 := hrow.ext e3
  repeat' (first | refine a_row hr6 ?_ | refine a_mov ?_ | refine a_asg ?_ | refine a_binN ?_ | refine a_notb ?_ | refine a_fa ?_ | refine a_lenv ?_ | (refine o_nil (hK _ _ ?_); clear hK K) | refine wk_reg ?_ | refine wk_seq fun K hK => ?_ | (refine wk_skip (hK _ _ ?_); clear hK K) | refine wk_block ?_ | refine wk_cond_t rfl ?_ | refine wk_cond_f rfl ?_ | (refine wk_exit ?_; (repeat (refine blockK_other rfl ?_)); refine blockK_same ?_; try ((repeat ((fail_if_success (refine hK _ _ ?_)); clear hK K)); refine hK _ _ ?_; clear hK K)) | (refine a_bin ?_ ?_ <;> intro _ <;> try (exfalso; omega)) | fail)
  refine a_fw (lineF (l := m.cas) (s := [99, 97, 115, 101]) hib6 hbb e3 ht (fun w' k => h.1.1.ext (k.ext hbb e3)) ok.cas 2000 60 ok.casL (by omega) (by simp; omega) (by omega)) ?_ (hargs := by simp only [str_eq]; rfl)
  rintro v w7 ⟨t7, rfl, hib7, hlen7, k7⟩
  replace e3 := Keep.ext hbb e3 k7
  clear k7 hib6 hlen6 hr6
  refine o_nil (hK _ _ ?_)
  clear hK K
  have hr7 := hrow.ext e3
  repeat' (first | refine a_row hr7 ?_ | refine a_mov ?_ | refine a_asg ?_ | refine a_binN ?_ | refine a_notb ?_ | refine a_fa ?_ | refine a_lenv ?_ | (refine o_nil (hK _ _ ?_); clear hK K) | refine wk_reg ?_ | refine wk_seq fun K hK => ?_ | (refine wk_skip (hK _ _ ?_); clear hK K) | refine wk_block ?_ | refine wk_cond_t rfl ?_ | refine wk_cond_f rfl ?_ | (refine wk_exit ?_; (repeat (refine blockK_other rfl ?_)); refine blockK_same ?_; try ((repeat ((fail_if_success (refine hK _ _ ?_)); clear hK K)); refine hK _ _ ?_; clear hK K)) | (refine a_bin ?_ ?_ <;> intro _ <;> try (exfalso; omega)) | fail)
  refine a_fw (lineF (l := m.moved) (s := [109, 111, 118, 101, 100]) hib7 hbb e3 ht (fun w' k => h.2.1.1.ext (k.ext hbb e3)) ok.moved 4000 60 ok.movedL (by omega) (by simp; omega) (by omega)) ?_ (hargs := by simp only [str_eq]; rfl)
  rintro v w8 ⟨t8, rfl, hib8, hlen8, k8⟩
  replace e3 := Keep.ext hbb e3 k8
  clear k8 hib7 hlen7 hr7
  refine o_nil (hK _ _ ?_)
  clear hK K
  have hr8 := hrow.ext e3
  repeat' (first | refine a_row hr8 ?_ | refine a_mov ?_ | refine a_asg ?_ | refine a_binN ?_ | refine a_notb ?_ | refine a_fa ?_ | refine a_lenv ?_ | (refine o_nil (hK _ _ ?_); clear hK K) | refine wk_reg ?_ | refine wk_seq fun K hK => ?_ | (refine wk_skip (hK _ _ ?_); clear hK K) | refine wk_block ?_ | refine wk_cond_t rfl ?_ | refine wk_cond_f rfl ?_ | (refine wk_exit ?_; (repeat (refine blockK_other rfl ?_)); refine blockK_same ?_; try ((repeat ((fail_if_success (refine hK _ _ ?_)); clear hK K)); refine hK _ _ ?_; clear hK K)) | (refine a_bin ?_ ?_ <;> intro _ <;> try (exfalso; omega)) | fail)
  have hrs := h.2.2.1.1
  rw [hxr] at hrs
  obtain ⟨ra', rc', hreq, hrp⟩ := sl_each rightL_len (by decide) hrs
  cases hreq
  refine wk_loopH [] rfl (fun i : Nat => [(1, .pointer (some ⟨b1, 0, none⟩)), (4, .pointer (some ⟨bb, 0, none⟩)), (5, .func (.func 42) #[] #[.pointer (some ⟨bb, 0, none⟩)]), (43, .slice ra m.rights.length rc), (44, .int .i64 (m.rights.length : Int)), (45, .int .i64 (i : Int))])
    (fun i w' => i ≤ m.rights.length ∧ Ext w2 w' ∧ ∃ t' : Tx, IsB bb t' w' ∧ t'.length ≤ 4000 + 60 * i) (fun i => m.rights.length - i) 0 ⟨rfl, rfl, rfl, rfl, rfl, rfl, trivial⟩ ⟨Nat.zero_le _, e3, _, hib8, by omega⟩ ?_
  clear hib8 hlen8 e3 hr8
  rintro i t1 w9 ⟨hi, e9, t9, hib9, hl9⟩
  have hn60 := ok.rightsL
  by_cases hlt : i < m.rights.length
  · obtain ⟨b, o, hp, hr⟩ := hrp i hlt
    have hr := hr w9 e9
    have hrg := ok.rights _ (List.getElem_mem hlt)
    generalize m.rights[i] = q at *
    repeat' (first | refine a_mov ?_ | refine a_asg ?_ | refine a_binN ?_ | refine a_notb ?_ | refine a_fa ?_ | refine a_lenv ?_ | (refine o_nil (hK _ _ ?_); clear hK K) | refine wk_reg ?_ | refine wk_seq fun K hK => ?_ | (refine wk_skip (hK _ _ ?_); clear hK K) | refine wk_block ?_ | refine wk_cond_t rfl ?_ | refine wk_cond_f rfl ?_ | (refine wk_exit ?_; (repeat (refine blockK_other rfl ?_)); refine blockK_same ?_; try ((repeat ((fail_if_success (refine hK _ _ ?_)); clear hK K)); refine hK _ _ ?_; clear hK K)) | (refine a_bin ?_ ?_ <;> intro _ <;> try (exfalso; omega)) | refine a_idx (c := 2) i hp ?_ | refine a_all hr ?_ | fail)
    refine o_alloc (LH.start w9 (fun _ => False)) [.string ⟨#[]⟩, .int .i64 0] (by kernel_rfl) rfl ?_
    intro b7 w10 hb7 hl
    refine o_store hl 0 (rightL q) rfl rfl rfl (by rfl) rfl (by simp [rightL]) (by simp only [rightL, List.all_cons, str_eq]; rfl) ?_
    clear hl
    intro w11 hl
    have hl : LH w9 (fun _ => False) w11 [(b7, .cells (rightL q).toArray 51 (0, 0))] := hl
    have hr7 : Row w11 b7 0 [str q.name, .int .i64 q.since] := hl.rowL (vs := rightL q) 0 0 2 rfl
    repeat' (first | refine a_row hr7 ?_ | refine a_mov ?_ | refine a_asg ?_ | refine a_binN ?_ | refine a_notb ?_ | refine a_fa ?_ | refine a_lenv ?_ | (refine o_nil (hK _ _ ?_); clear hK K) | refine wk_reg ?_ | refine wk_seq fun K hK => ?_ | (refine wk_skip (hK _ _ ?_); clear hK K) | refine wk_block ?_ | refine wk_cond_t rfl ?_ | refine wk_cond_f rfl ?_ | (refine wk_exit ?_; (repeat (refine blockK_other rfl ?_)); refine blockK_same ?_; try ((repeat ((fail_if_success (refine hK _ _ ?_)); clear hK K)); refine hK _ _ ?_; clear hK K)) | (refine a_bin ?_ ?_ <;> intro _ <;> try (exfalso; omega)) | fail)
    refine o_cat (a := rightS) (b := q.name) (by simp [rightS]; omega) rfl (by simp only [rightS, str_eq]; rfl) rfl ?_
    repeat' (first | refine a_row hr7 ?_ | refine a_mov ?_ | refine a_asg ?_ | refine a_binN ?_ | refine a_notb ?_ | refine a_fa ?_ | refine a_lenv ?_ | (refine o_nil (hK _ _ ?_); clear hK K) | refine wk_reg ?_ | refine wk_seq fun K hK => ?_ | (refine wk_skip (hK _ _ ?_); clear hK K) | refine wk_block ?_ | refine wk_cond_t rfl ?_ | refine wk_cond_f rfl ?_ | (refine wk_exit ?_; (repeat (refine blockK_other rfl ?_)); refine blockK_same ?_; try ((repeat ((fail_if_success (refine hK _ _ ?_)); clear hK K)); refine hK _ _ ?_; clear hK K)) | (refine a_bin ?_ ?_ <;> intro _ <;> try (exfalso; omega)) | fail)
    refine o_buildSlice hl [.int .i64 q.since] rfl rfl (by kernel_rfl) ?_
    clear hl
    intro bs w12 hbs hl
    have hlt9 := hib9.lt
    refine a_fw (lineF (l := [q.since]) (s := rightS ++ q.name) (hib9.ext hl.done) hbb (e9.trans hl.done) ht (lit_keep (hl.get 0 rfl) (by omega) rfl) (fun z hz => by rw [List.mem_singleton.1 hz]; exact hrg.2) (4000 + 60 * (i + 1)) 1 (by simp) (by omega) (by simp [rightS]; omega) (by omega)) ?_
    rintro v w13 ⟨t13, rfl, hib13, hlen13, k13⟩
    have e13 := Keep.ext hbb (e9.trans hl.done) k13
    repeat' (first | refine a_mov ?_ | refine a_asg ?_ | refine a_binN ?_ | refine a_notb ?_ | refine a_fa ?_ | refine a_lenv ?_ | (refine o_nil (hK _ _ ?_); clear hK K) | refine wk_reg ?_ | refine wk_seq fun K hK => ?_ | (refine wk_skip (hK _ _ ?_); clear hK K) | refine wk_block ?_ | refine wk_cond_t rfl ?_ | refine wk_cond_f rfl ?_ | (refine wk_exit ?_; (repeat (refine blockK_other rfl ?_)); refine blockK_same ?_; try ((repeat ((fail_if_success (refine hK _ _ ?_)); clear hK K)); refine hK _ _ ?_; clear hK K)) | (refine a_bin ?_ ?_ <;> intro _ <;> try (exfalso; omega)) | fail)
    exact o_nil ⟨i + 1, ⟨rfl, rfl, rfl, rfl, rfl, rfl, trivial⟩, rfl, ⟨hlt, e13, _, hib13, hlen13⟩, by omega⟩
  obtain rfl : i = m.rights.length := by omega
  replace hl9 : t9.length ≤ 8000 := by omega
  clear hrp hn60 hi hlt
  have hr9 := hrow.ext e9
  repeat' (first | refine a_row hr9 ?_ | refine a_mov ?_ | refine a_asg ?_ | refine a_binN ?_ | refine a_notb ?_ | refine a_fa ?_ | refine a_lenv ?_ | (refine o_nil (hK _ _ ?_); clear hK K) | refine wk_reg ?_ | refine wk_seq fun K hK => ?_ | (refine wk_skip (hK _ _ ?_); clear hK K) | refine wk_block ?_ | refine wk_cond_t rfl ?_ | refine wk_cond_f rfl ?_ | (refine wk_exit ?_; (repeat (refine blockK_other rfl ?_)); refine blockK_same ?_; try ((repeat ((fail_if_success (refine hK _ _ ?_)); clear hK K)); refine hK _ _ ?_; clear hK K)) | (refine a_bin ?_ ?_ <;> intro _ <;> try (exfalso; omega)) | fail)
  have hls := hlsl.ext e2
  rw [show x.4 = _ from hxl] at hls
  obtain ⟨la', lc', hleq, hlq⟩ := sl_each limL_len (by decide) hls
  cases hleq
  have hn60 := ok.limitsL
  refine wk_loopH [] rfl (fun i : Nat => [(1, .pointer (some ⟨b1, 0, none⟩)), (4, .pointer (some ⟨bb, 0, none⟩)), (5, .func (.func 42) #[] #[.pointer (some ⟨bb, 0, none⟩)]), (59, .slice la lp.length lc), (60, .int .i64 (lp.length : Int)), (61, .int .i64 (i : Int))])
    (fun i w' => i ≤ lp.length ∧ Ext w2 w' ∧ ∃ t' : Tx, IsB bb t' w' ∧ t'.length ≤ 8000 + 3000 * i) (fun i => lp.length - i) 0 ⟨rfl, rfl, rfl, rfl, rfl, rfl, trivial⟩ ⟨Nat.zero_le _, e9, _, hib9, by omega⟩ ?_
  clear hib9 hl9 e9 hr9 w9 t9
  rintro i t1 w9 ⟨hi, e9, t9, hib9, hl9⟩
  by_cases hlt : i < lp.length
  · obtain ⟨b, o, hp, hr⟩ := hlq i hlt
    have hr := hr w9 e9
    have hmem := List.getElem_mem hlt
    have hli := (hlim _ hmem).ext (e2.trans e9)
    have hlg := ok.limits lp[i].1 (by rw [← hlp]; exact List.mem_map_of_mem hmem)
    generalize lp[i] = q at *
    obtain ⟨sa, sc, hsv⟩ := lim_shape hli
    have hsl : Sl w9 (.slice sa q.1.st.length sc) 2 (q.1.st.flatMap stopL) := by rw [← hsv]; exact hli.1
    have hone := lim_one hli
    obtain ⟨l, sv⟩ := q
    simp only at hsv hlg hsl
    subst hsv
    have hlt9 := hib9.lt
    repeat' (first | refine a_mov ?_ | refine a_asg ?_ | refine a_binN ?_ | refine a_notb ?_ | refine a_fa ?_ | refine a_lenv ?_ | (refine o_nil (hK _ _ ?_); clear hK K) | refine wk_reg ?_ | refine wk_seq fun K hK => ?_ | (refine wk_skip (hK _ _ ?_); clear hK K) | refine wk_block ?_ | refine wk_cond_t rfl ?_ | refine wk_cond_f rfl ?_ | (refine wk_exit ?_; (repeat (refine blockK_other rfl ?_)); refine blockK_same ?_; try ((repeat ((fail_if_success (refine hK _ _ ?_)); clear hK K)); refine hK _ _ ?_; clear hK K)) | (refine a_bin ?_ ?_ <;> intro _ <;> try (exfalso; omega)) | refine a_idx (c := 5) i hp ?_ | refine a_all hr ?_ | fail)
    refine o_alloc (LH.start w9 (fun _ => False)) zeroL (by kernel_rfl) rfl ?_
    intro b9 w10 hb9 hl
    refine o_store hl 0 (limL (l, .slice sa l.st.length sc)) rfl rfl rfl (by rfl) rfl (by rw [limL_len]; decide) hone ?_
    clear hl
    intro w11 hl
    have hl : LH w9 (fun _ => False) w11 [(b9, .cells (limL (l, .slice sa l.st.length sc)).toArray 56 (0, 0))] := hl
    have hr9 : Row w11 b9 0 [str l.id, .int .i64 l.n, .int .i64 l.u, .int .i64 l.f, .slice sa l.st.length sc] := hl.rowL (vs := limL (l, .slice sa l.st.length sc)) 0 0 5 rfl
    repeat' (first | refine a_row hr9 ?_ | refine a_mov ?_ | refine a_asg ?_ | refine a_binN ?_ | refine a_notb ?_ | refine a_fa ?_ | refine a_lenv ?_ | (refine o_nil (hK _ _ ?_); clear hK K) | refine wk_reg ?_ | refine wk_seq fun K hK => ?_ | (refine wk_skip (hK _ _ ?_); clear hK K) | refine wk_block ?_ | refine wk_cond_t rfl ?_ | refine wk_cond_f rfl ?_ | (refine wk_exit ?_; (repeat (refine blockK_other rfl ?_)); refine blockK_same ?_; try ((repeat ((fail_if_success (refine hK _ _ ?_)); clear hK K)); refine hK _ _ ?_; clear hK K)) | (refine a_bin ?_ ?_ <;> intro _ <;> try (exfalso; omega)) | fail)
    refine o_buildSlice hl [.int .i64 l.n, .int .i64 l.u, .int .i64 l.f] rfl rfl (by kernel_rfl) ?_
    clear hl
    intro bs w12 hbs hl
    have hl : LH w9 (fun _ => False) w12 ([(b9, .cells (limL (l, .slice sa l.st.length sc)).toArray 56 (0, 0))] ++ [(bs, .cells [.int .i64 l.n, .int .i64 l.u, .int .i64 l.f].toArray 3 (0, 0))]) := hl.perm (List.Perm.swap _ _ _)
    have hr9 : Row w12 b9 0 [str l.id, .int .i64 l.n, .int .i64 l.u, .int .i64 l.f, .slice sa l.st.length sc] := hl.rowL (vs := limL (l, .slice sa l.st.length sc)) 0 0 5 rfl
    repeat' (first | refine a_row hr9 ?_ | refine a_mov ?_ | refine a_asg ?_ | refine a_binN ?_ | refine a_notb ?_ | refine a_fa ?_ | refine a_lenv ?_ | (refine o_nil (hK _ _ ?_); clear hK K) | refine wk_reg ?_ | refine wk_seq fun K hK => ?_ | (refine wk_skip (hK _ _ ?_); clear hK K) | refine wk_block ?_ | refine wk_cond_t rfl ?_ | refine wk_cond_f rfl ?_ | (refine wk_exit ?_; (repeat (refine blockK_other rfl ?_)); refine blockK_same ?_; try ((repeat ((fail_if_success (refine hK _ _ ?_)); clear hK K)); refine hK _ _ ?_; clear hK K)) | (refine a_bin ?_ ?_ <;> intro _ <;> try (exfalso; omega)) | fail)
    obtain ⟨sa', sc', hseq, hsp⟩ := sl_each stopL_len (by decide) hsl
    cases hseq
    have hacc : Acc (.slice (some ⟨bs, 0, none⟩) 3 3) 1 3 3 [.int .i64 l.n, .int .i64 l.u, .int .i64 l.f] [(bs, .cells [.int .i64 l.n, .int .i64 l.u, .int .i64 l.f].toArray 3 (0, 0))] := ⟨rfl, .inr ⟨bs, 3, _, rfl, rfl, by decide, by decide +kernel, rfl, rfl⟩⟩
    have hst60 := hlg.2.2.2.2.1
    refine wk_loopH [] rfl (fun x : Nat × Value => [(1, .pointer (some ⟨b1, 0, none⟩)), (4, .pointer (some ⟨bb, 0, none⟩)), (5, .func (.func 42) #[] #[.pointer (some ⟨bb, 0, none⟩)]), (9, .pointer (some ⟨b9, 0, none⟩)), (10, x.2), (59, .slice la lp.length lc), (60, .int .i64 (lp.length : Int)), (61, .int .i64 (i : Int)), (75, .slice sa l.st.length sc), (76, .int .i64 (l.st.length : Int)), (77, .int .i64 (x.1 : Int))])
      (fun x w' => x.1 ≤ l.st.length ∧ ∃ acc, LH w9 (fun _ => False) w' ([(b9, .cells (limL (l, .slice sa l.st.length sc)).toArray 56 (0, 0))] ++ acc) ∧ Acc x.2 1 3 (3 + 2 * x.1) (([l.n, l.u, l.f] ++ (l.st.take x.1).flatMap fun s => [s.a, s.b]).flatMap intL) acc) (fun x => l.st.length - x.1) (0, _) ⟨rfl, rfl, rfl, rfl, rfl, rfl, rfl, rfl, rfl, rfl, rfl, trivial⟩ ⟨Nat.zero_le _, _, hl, hacc⟩ ?_
    clear hl hacc hr9
    rintro ⟨j, lv⟩ t2 w13 ⟨hj, acc, hl, hacc⟩
    simp only at hj hacc ⊢
    by_cases hjlt : j < l.st.length
    · obtain ⟨bq, oq, hpq, hrq⟩ := hsp j hjlt
      have hrq := hrq w13 hl.done
      have htk : l.st.take (j + 1) = l.st.take j ++ [l.st[j]] := List.take_succ_eq_append_getElem hjlt
      generalize l.st[j] = s at *
      repeat' (first | refine a_mov ?_ | refine a_asg ?_ | refine a_binN ?_ | refine a_notb ?_ | refine a_fa ?_ | refine a_lenv ?_ | (refine o_nil (hK _ _ ?_); clear hK K) | refine wk_reg ?_ | refine wk_seq fun K hK => ?_ | (refine wk_skip (hK _ _ ?_); clear hK K) | refine wk_block ?_ | refine wk_cond_t rfl ?_ | refine wk_cond_f rfl ?_ | (refine wk_exit ?_; (repeat (refine blockK_other rfl ?_)); refine blockK_same ?_; try ((repeat ((fail_if_success (refine hK _ _ ?_)); clear hK K)); refine hK _ _ ?_; clear hK K)) | (refine a_bin ?_ ?_ <;> intro _ <;> try (exfalso; omega)) | refine a_idx (c := 2) j hpq ?_ | refine a_all hrq ?_ | fail)
      refine o_alloc hl [.int .i64 0, .int .i64 0] rfl rfl ?_
      clear hl
      intro b12 w14 hb12 hl
      refine o_store hl 0 (stopL s) rfl rfl rfl (by rfl) rfl (by simp [stopL]) rfl ?_
      clear hl
      intro w15 hl
      have hl : LH w9 (fun _ => False) w15 ([(b12, .cells (stopL s).toArray 93 (0, 0)), (b9, .cells (limL (l, .slice sa l.st.length sc)).toArray 56 (0, 0))] ++ acc) := hl
      have hr12 : Row w15 b12 0 [.int .i64 s.a, .int .i64 s.b] := hl.rowL (vs := stopL s) 0 0 2 rfl
      repeat' (first | refine a_row hr12 ?_ | refine a_mov ?_ | refine a_asg ?_ | refine a_binN ?_ | refine a_notb ?_ | refine a_fa ?_ | refine a_lenv ?_ | (refine o_nil (hK _ _ ?_); clear hK K) | refine wk_reg ?_ | refine wk_seq fun K hK => ?_ | (refine wk_skip (hK _ _ ?_); clear hK K) | refine wk_block ?_ | refine wk_cond_t rfl ?_ | refine wk_cond_f rfl ?_ | (refine wk_exit ?_; (repeat (refine blockK_other rfl ?_)); refine blockK_same ?_; try ((repeat ((fail_if_success (refine hK _ _ ?_)); clear hK K)); refine hK _ _ ?_; clear hK K)) | (refine a_bin ?_ ?_ <;> intro _ <;> try (exfalso; omega)) | fail)
      refine o_buildSlice hl [.int .i64 s.a, .int .i64 s.b] rfl rfl (by kernel_rfl) ?_
      clear hl
      intro b13 w16 hb13 hl
      have hl : LH w9 (fun _ => False) w16 ([(b13, .cells [.int .i64 s.a, .int .i64 s.b].toArray 3 (0, 0)), (b12, .cells (stopL s).toArray 93 (0, 0)), (b9, .cells (limL (l, .slice sa l.st.length sc)).toArray 56 (0, 0))] ++ acc) := hl
      refine o_append (k := 1) (bytes := 8) (m := 3 + 2 * j) (q := 2) (us := [.int .i64 s.a, .int .i64 s.b]) hl hacc (hl.rowL (vs := [.int .i64 s.a, .int .i64 s.b]) 0 0 2 rfl) rfl rfl (by decide) (by omega) (by omega) rfl rfl (by kernel_rfl) rfl rfl ?_
      clear hl hacc
      intro v2 w17 acc2 hl hacc
      repeat' (first | refine a_mov ?_ | refine a_asg ?_ | refine a_binN ?_ | refine a_notb ?_ | refine a_fa ?_ | refine a_lenv ?_ | (refine o_nil (hK _ _ ?_); clear hK K) | refine wk_reg ?_ | refine wk_seq fun K hK => ?_ | (refine wk_skip (hK _ _ ?_); clear hK K) | refine wk_block ?_ | refine wk_cond_t rfl ?_ | refine wk_cond_f rfl ?_ | (refine wk_exit ?_; (repeat (refine blockK_other rfl ?_)); refine blockK_same ?_; try ((repeat ((fail_if_success (refine hK _ _ ?_)); clear hK K)); refine hK _ _ ?_; clear hK K)) | (refine a_bin ?_ ?_ <;> intro _ <;> try (exfalso; omega)) | fail)
      refine o_nil ⟨(j + 1, v2), ⟨rfl, rfl, rfl, rfl, rfl, rfl, rfl, rfl, rfl, rfl, rfl, trivial⟩, rfl, ⟨hjlt, acc2, hl.sub ((List.sublist_cons_self _ _).trans (List.sublist_cons_self _ _)), ?_⟩, by simp only; omega⟩
      simp only
      rw [show ([l.n, l.u, l.f] ++ (l.st.take (j + 1)).flatMap fun s => [s.a, s.b]).flatMap intL = ([l.n, l.u, l.f] ++ (l.st.take j).flatMap fun s => [s.a, s.b]).flatMap intL ++ [.int .i64 s.a, .int .i64 s.b] from by rw [htk]; simp [intL], show 3 + 2 * (j + 1) = 3 + 2 * j + 2 by omega]
      exact hacc
    obtain rfl : j = l.st.length := by omega
    rw [List.take_length] at hacc
    have hr9 : Row w13 b9 0 [str l.id, .int .i64 l.n, .int .i64 l.u, .int .i64 l.f, .slice sa l.st.length sc] := hl.rowL (vs := limL (l, .slice sa l.st.length sc)) 0 0 5 rfl
    repeat' (first | refine a_row hr9 ?_ | refine a_mov ?_ | refine a_asg ?_ | refine a_binN ?_ | refine a_notb ?_ | refine a_fa ?_ | refine a_lenv ?_ | (refine o_nil (hK _ _ ?_); clear hK K) | refine wk_reg ?_ | refine wk_seq fun K hK => ?_ | (refine wk_skip (hK _ _ ?_); clear hK K) | refine wk_block ?_ | refine wk_cond_t rfl ?_ | refine wk_cond_f rfl ?_ | (refine wk_exit ?_; (repeat (refine blockK_other rfl ?_)); refine blockK_same ?_; try ((repeat ((fail_if_success (refine hK _ _ ?_)); clear hK K)); refine hK _ _ ?_; clear hK K)) | (refine a_bin ?_ ?_ <;> intro _ <;> try (exfalso; omega)) | fail)
    have hll := hlg.1
    refine o_cat (a := limitS) (b := l.id) (by simp [limitS]; omega) rfl (by simp only [limitS, str_eq]; rfl) rfl ?_
    repeat' (first | refine a_mov ?_ | refine a_asg ?_ | refine a_binN ?_ | refine a_notb ?_ | refine a_fa ?_ | refine a_lenv ?_ | (refine a_bin ?_ ?_ <;> intro _ <;> try (exfalso; omega)) | fail)
    have hlen2 : ([l.n, l.u, l.f] ++ l.st.flatMap fun s => [s.a, s.b]).length ≤ 123 := by
      have hk : ∀ st : List Stop, (st.flatMap fun s => [s.a, s.b]).length = 2 * st.length := by
        intro st
        induction st with
        | nil => rfl
        | cons x r ih => rw [List.flatMap_cons, List.length_append, ih, List.length_cons]; simp only [List.length_cons, List.length_nil]; omega
      rw [List.length_append, hk]
      simp only [List.length_cons, List.length_nil]
      omega
    have hz2 : ∀ z ∈ [l.n, l.u, l.f] ++ l.st.flatMap (fun s => [s.a, s.b]), 0 ≤ z ∧ z ≤ 1000000 := by
      intro z hz
      rcases List.mem_append.1 hz with hz | hz
      · simp only [List.mem_cons, List.not_mem_nil, or_false] at hz
        rcases hz with rfl | rfl | rfl <;> omega
      · obtain ⟨s, hs, hz⟩ := List.mem_flatMap.1 hz
        have := hlg.2.2.2.2.2 s hs
        simp only [List.mem_cons, List.not_mem_nil, or_false] at hz
        rcases hz with rfl | rfl <;> omega
    refine a_fw (lineF (s := limitS ++ l.id) (hib9.ext hl.done) hbb (e9.trans hl.done) ht (acc_keep hl hacc hlt9) hz2 (8000 + 3000 * (i + 1)) 123 hlen2 (by omega) (by simp [limitS]; omega) (by omega)) ?_
    rintro v w18 ⟨t18, rfl, hib18, hlen18, k18⟩
    have e18 := Keep.ext hbb (e9.trans hl.done) k18
    repeat' (first | refine a_mov ?_ | refine a_asg ?_ | refine a_binN ?_ | refine a_notb ?_ | refine a_fa ?_ | refine a_lenv ?_ | (refine o_nil (hK _ _ ?_); clear hK K) | refine wk_reg ?_ | refine wk_seq fun K hK => ?_ | (refine wk_skip (hK _ _ ?_); clear hK K) | refine wk_block ?_ | refine wk_cond_t rfl ?_ | refine wk_cond_f rfl ?_ | (refine wk_exit ?_; (repeat (refine blockK_other rfl ?_)); refine blockK_same ?_; try ((repeat ((fail_if_success (refine hK _ _ ?_)); clear hK K)); refine hK _ _ ?_; clear hK K)) | (refine a_bin ?_ ?_ <;> intro _ <;> try (exfalso; omega)) | fail)
    exact o_nil ⟨i + 1, ⟨rfl, rfl, rfl, rfl, rfl, rfl, trivial⟩, rfl, ⟨hlt, e18, _, hib18, hlen18⟩, by omega⟩
  obtain rfl : i = lp.length := by omega
  repeat' (first | refine a_mov ?_ | refine a_asg ?_ | refine a_binN ?_ | refine a_notb ?_ | refine a_fa ?_ | refine a_lenv ?_ | (refine o_nil (hK _ _ ?_); clear hK K) | refine wk_reg ?_ | refine wk_seq fun K hK => ?_ | (refine wk_skip (hK _ _ ?_); clear hK K) | refine wk_block ?_ | refine wk_cond_t rfl ?_ | refine wk_cond_f rfl ?_ | (refine wk_exit ?_; (repeat (refine blockK_other rfl ?_)); refine blockK_same ?_; try ((repeat ((fail_if_success (refine hK _ _ ?_)); clear hK K)); refine hK _ _ ?_; clear hK K)) | (refine a_bin ?_ ?_ <;> intro _ <;> try (exfalso; omega)) | fail)
  refine a_fn (bstr_calls hib9) ?_
  rintro v w10 ⟨rfl, k10⟩
  repeat' (first | refine a_mov ?_ | refine a_asg ?_ | refine a_binN ?_ | refine a_notb ?_ | refine a_fa ?_ | refine a_lenv ?_ | (refine o_nil (hK _ _ ?_); clear hK K) | refine wk_reg ?_ | refine wk_seq fun K hK => ?_ | (refine wk_skip (hK _ _ ?_); clear hK K) | refine wk_block ?_ | refine wk_cond_t rfl ?_ | refine wk_cond_f rfl ?_ | (refine wk_exit ?_; (repeat (refine blockK_other rfl ?_)); refine blockK_same ?_; try ((repeat ((fail_if_success (refine hK _ _ ?_)); clear hK K)); refine hK _ _ ?_; clear hK K)) | (refine a_bin ?_ ?_ <;> intro _ <;> try (exfalso; omega)) | fail)
  refine wk_ret (retQ_tmp2 Tryz.results17 (by decide) (by decide) rfl (by conv => lhs; whnf) (by conv => lhs; whnf) ?_)
  exact ⟨⟨t9, by rw [hf]; rfl⟩, e2.trans (Keep.ext hbb e9 k10)⟩
end Go.Proofs
