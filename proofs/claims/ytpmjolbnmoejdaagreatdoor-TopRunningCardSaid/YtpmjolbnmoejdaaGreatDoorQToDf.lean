/-
  Matters: elements with different keys.
-/
import Derived.Test.YtpmjolbnmoejdaaGreatDoorQCd
import Derived.Test.YtpmjolbnmoejdaaGreatDoorQLC
import Derived.Test.YtpmjolbnmoejdaaGreatDoorQSp
set_option linter.unusedVariables false
set_option linter.unusedSimpArgs false
set_option linter.unnecessarySimpa false
set_option maxRecDepth 10000
namespace Go.Pd
open Go
def ipV (q : Go.Top.IPair) : Value := .agg #[.int .i64 q.x, .int .i64 q.y]

theorem ipRange2 : (List.range' 0 2 1) = [0, 1] := rfl
theorem key_ip {P : Program} {kt e : TypeId} {kd : IntKind} (hu : P.underlying kt = some (.array 2 e)) (he : P.underlying e = some (.int kd)) (hs : sizeT P e = some 1) : Key P kt ipV := by
  have ha : aggT P e = some false := by simp [aggT, he]
  have hsz : ∀ w : World, (sizeOf e).run P w = .ok 1 w := fun w => run_sizeT hs w
  have hp0 : ∀ (x y : Int) (w : World), (part e #[.int .i64 x, .int .i64 y] 0).run P w = .ok (.int .i64 x) w := fun x y w => run_part (xs := [.int .i64 x, .int .i64 y]) ha rfl w
  have hp1 : ∀ (x y : Int) (w : World), (part e #[.int .i64 x, .int .i64 y] 1).run P w = .ok (.int .i64 y) w := fun x y w => run_part (xs := [.int .i64 x, .int .i64 y]) ha rfl w
  have hc : ∀ (em : Bool) (k : Nat) (a : Int) (w : World), (Instr.checkKey em (k + 1) e (.int .i64 a)).run P w = .ok () w := fun em k a w => by
    unfold Instr.checkKey
    rw [sem_bind (run_underlying' he w)]
    rfl
  refine ⟨fun em a w => ?_, fun a b w => ?_, fun a b u hu' x hx => ?_, fun a => ?_, ⟨_, hu⟩⟩
  · show (Instr.checkKey em (9999 + 1) kt _).run P w = _
    unfold Instr.checkKey
    rw [sem_bind (run_underlying' hu w)]
    simp only [ipV]
    rw [Std.Legacy.Range.forIn_eq_forIn_range']
    simp [ipRange2, Std.Legacy.Range.size, Sem.run_bind, hsz, hp0, hp1, hc em 9998, Result.andThen_ok]
  · show (Op.equalIn (9999 + 1) kt _ _).run P w = _
    have hq : ∀ (x y : Int) (w : World), (Op.equalIn 9999 e (.int .i64 x) (.int .i64 y)).run P w = .ok (decide (x = y)) w := fun x y w => (Sc.int he : Sc P e (.int .i64 x) (.int .i64 y) _).run 9998 w
    unfold Op.equalIn
    rw [sem_bind (run_underlying' hu w)]
    simp only [ipV]
    rw [sem_bind (hsz w)]
    rw [Std.Legacy.Range.forIn_eq_forIn_range']
    obtain ⟨a1, a2⟩ := a
    obtain ⟨b1, b2⟩ := b
    by_cases e1 : a1 = b1 <;> by_cases e2 : a2 = b2 <;> simp [ipRange2, Std.Legacy.Range.size, Sem.run_bind, hp0, hp1, hq, Result.andThen_ok, e1, e2, Int.natCast_inj]
  · rw [hu] at hu'
    cases hu'
    simp [ipV, Instr.sameNow] at hx
  · show ((#[Value.int .i64 a.x, .int .i64 a.y] : Array Value).size == (#[Value.int .i64 a.x, .int .i64 a.y] : Array Value).size && (List.zip [Value.int .i64 a.x, .int .i64 a.y] [Value.int .i64 a.x, .int .i64 a.y]).all fun (x, y) => Instr.sameBits 9999 x y) = true
    have hb : ∀ z : Int, Instr.sameBits 9999 (.int .i64 z) (.int .i64 z) = true := fun z => by
      show ((IntKind.i64 == IntKind.i64) && (z == z)) = true
      simp
    simp [hb]

def seenM {α κ : Type} (key : α → κ) (l : List α) : List (κ × Value) := l.map fun x => (key x, .bool true)
theorem seenM_keys {α κ : Type} (key : α → κ) (l : List α) : (seenM key l).map (·.1) = l.map key := by unfold seenM; rw [List.map_map]; rfl
theorem seenM_get {α κ : Type} [DecidableEq κ] (key : α → κ) (a : κ) : ∀ (l : List α), (get (seenM key l) a).getD (.bool false) = .bool (decide (a ∈ l.map key))
  | [] => rfl
  | x :: l => by
    unfold seenM
    rw [List.map_cons, get]
    by_cases h : a = key x
    · rw [if_pos h]
      simp [h]
    · rw [if_neg h]
      have ih := seenM_get key a l
      unfold seenM at ih
      rw [ih]
      simp [h]
theorem seenM_in {α κ : Type} [DecidableEq κ] {key : α → κ} {a : κ} {l : List α} (h : a ∈ l.map key) : (get (seenM key l) a).getD (.bool false) = .bool true := by rw [seenM_get, decide_eq_true h]
theorem seenM_out {α κ : Type} [DecidableEq κ] {key : α → κ} {a : κ} {l : List α} (h : a ∉ l.map key) : (get (seenM key l) a).getD (.bool false) = .bool false := by rw [seenM_get, decide_eq_false h]
theorem seenM_ins {α κ : Type} [DecidableEq κ] (key : α → κ) (x : α) (l : List α) (h : key x ∉ l.map key) : ins (seenM key l) (key x) (.bool true) = seenM key (l ++ [x]) := by
  have h1 : get (seenM key l) (key x) = none := (get_mem _ _).2 (by rw [seenM_keys]; exact h)
  have h2 : assocIdx (seenM key l) (key x) 0 = none := by
    have := get_assoc (seenM key l) (key x) 0
    rw [h1] at this
    exact Option.map_eq_none_iff.1 this
  rw [(ins_new _ _ 0 h2 _).1]
  unfold seenM
  rw [List.map_append]
  rfl
end Go.Pd
namespace Go.Proofs
open Go Go.Pd Go.Top
attribute [local irreducible] OpsL W RetQ OpsQ OpsC
set_option maxHeartbeats 4000000 in
theorem limitDiff_calls {α : Type} {l : List α} {f : α → List Value} {key : α → Tx} {good : α → Bool} {kv gv hv : Value} {w : World} (hk : ∀ x, (f x).length = 5) (hone : ∀ x ∈ l, (f x).all Value.oneCell' = true) (hH : Sl w hv 5 (l.flatMap f)) (hlen : l.length ≤ 140737488351232)
    (hg : ∀ x ∈ l, ∀ w1, Ext w w1 → CallF Tryz.prog gv #[.agg (f x).toArray] w1 (fun v w2 => v = .bool (good x) ∧ Ext w1 w2)) (hkey : ∀ x ∈ l, ∀ w1, Ext w w1 → CallF Tryz.prog kv #[.agg (f x).toArray] w1 (fun v w2 => v = str (key x) ∧ Ext w1 w2)) :
    Calls Tryz.prog 86 #[hv, kv, gv] w (fun e w' => ∃ v, e = .returned v ∧ v = .bool (diffB key good l) ∧ Ext w w') := by
  obtain ⟨ka, kc, rfl, hp⟩ := sl_each hk (by decide) hH
  have hky := key_str (P := Tryz.prog) (kt := 9) rfl
  refine calls_of Tryz.func86 rfl Tryz.ntmps86 rfl ?_
  repeat' (first | refine a_mov ?_ | refine a_asg ?_ | refine a_binN ?_ | refine a_notb ?_ | refine a_lenv ?_ | refine a_pick_t ?_ | refine a_pick_f ?_ | refine a_not ?_ | (refine o_nil (hK _ _ ?_); clear hK K) | refine wk_reg ?_ | refine wk_seq fun K hK => ?_ | (refine wk_skip (hK _ _ ?_); clear hK K) | refine wk_block ?_ | refine wk_cond_t rfl ?_ | refine wk_cond_f rfl ?_ | (refine wk_exit ?_; (repeat (refine blockK_other rfl ?_)); refine blockK_same ?_; try ((repeat ((fail_if_success (refine hK _ _ ?_)); clear hK K)); refine hK _ _ ?_; clear hK K)) | (refine a_bin ?_ ?_ <;> intro _ <;> try (exfalso; omega)) | fail)
  refine o_makeMap (LH.start w (fun _ => False)) rfl ?_
  intro b7 w1 hb7 hl
  repeat' (first | refine a_mov ?_ | refine a_asg ?_ | refine a_binN ?_ | refine a_notb ?_ | refine a_lenv ?_ | refine a_pick_t ?_ | refine a_pick_f ?_ | refine a_not ?_ | (refine o_nil (hK _ _ ?_); clear hK K) | refine wk_reg ?_ | refine wk_seq fun K hK => ?_ | (refine wk_skip (hK _ _ ?_); clear hK K) | refine wk_block ?_ | refine wk_cond_t rfl ?_ | refine wk_cond_f rfl ?_ | (refine wk_exit ?_; (repeat (refine blockK_other rfl ?_)); refine blockK_same ?_; try ((repeat ((fail_if_success (refine hK _ _ ?_)); clear hK K)); refine hK _ _ ?_; clear hK K)) | (refine a_bin ?_ ?_ <;> intro _ <;> try (exfalso; omega)) | fail)
  refine wk_loopH [] rfl (fun i : Nat => [(0, .slice ka l.length kc), (1, kv), (2, gv), (7, .map (some b7)), (11, .slice ka l.length kc), (12, .int .i64 (l.length : Int)), (13, .int .i64 (i : Int))])
    (fun i w' => i ≤ l.length ∧ (l.take i).all good = true ∧ ((l.take i).map key).Nodup ∧ ∃ es c, MapR str es (seenM key (l.take i)) ∧ LH w (fun _ => False) w' [(b7, .map es c)]) (fun i => l.length - i) 0 ⟨rfl, rfl, rfl, rfl, rfl, rfl, rfl, trivial⟩ ⟨Nat.zero_le _, rfl, List.nodup_nil, #[], 0, MapR.nil, hl⟩ ?_
  clear hl
  rintro i t1 w2 ⟨hi, hpre, hnd, es, c, hm, hl⟩
  by_cases hi1 : i < l.length
  · obtain ⟨b, o, hpp, hr⟩ := hp i hi1
    have hr := hr w2 hl.done
    have hmem := List.getElem_mem hi1
    have hta := List.take_succ_eq_append_getElem hi1
    repeat' (first | refine a_mov ?_ | refine a_asg ?_ | refine a_binN ?_ | refine a_notb ?_ | refine a_lenv ?_ | refine a_pick_t ?_ | refine a_pick_f ?_ | refine a_not ?_ | (refine o_nil (hK _ _ ?_); clear hK K) | refine wk_reg ?_ | refine wk_seq fun K hK => ?_ | (refine wk_skip (hK _ _ ?_); clear hK K) | refine wk_block ?_ | refine wk_cond_t rfl ?_ | refine wk_cond_f rfl ?_ | (refine wk_exit ?_; (repeat (refine blockK_other rfl ?_)); refine blockK_same ?_; try ((repeat ((fail_if_success (refine hK _ _ ?_)); clear hK K)); refine hK _ _ ?_; clear hK K)) | (refine a_bin ?_ ?_ <;> intro _ <;> try (exfalso; omega)) | refine a_idx (c := 5) i hpp ?_ | refine a_all hr ?_ (hs := congrArg some (hk _).symm) | fail)
    refine o_alloc hl [.string ⟨#[]⟩, .int .i64 0, .int .i64 0, .int .i64 0, .slice none 0 0] rfl (by kernel_rfl) ?_
    clear hl
    intro b9 w3 hb9 hl
    refine o_store hl 0 (f l[i]) rfl rfl rfl rfl (congrArg some (hk _).symm) (by rw [hk]; decide) (hone _ hmem) ?_
    clear hl
    intro w4 hl
    rw [putL_all _ _ _ (by rw [hk]; rfl), List.take_zero, List.nil_append] at hl
    have hl : LH w (fun _ => False) w4 [(b9, .cells (f l[i]).toArray 56 (0, 0)), (b7, .map es c)] := hl
    have hr9 : Row w4 b9 0 (f l[i]) := by
      have h9 := hl.rowL (vs := f l[i]) 0 0 5 rfl
      rwa [List.drop_zero, List.take_of_length_le (by rw [hk]; exact Nat.le_refl _)] at h9
    have hr := hr9
    repeat' (first | refine a_mov ?_ | refine a_asg ?_ | refine a_binN ?_ | refine a_notb ?_ | refine a_lenv ?_ | refine a_pick_t ?_ | refine a_pick_f ?_ | refine a_not ?_ | (refine o_nil (hK _ _ ?_); clear hK K) | refine wk_reg ?_ | refine wk_seq fun K hK => ?_ | (refine wk_skip (hK _ _ ?_); clear hK K) | refine wk_block ?_ | refine wk_cond_t rfl ?_ | refine wk_cond_f rfl ?_ | (refine wk_exit ?_; (repeat (refine blockK_other rfl ?_)); refine blockK_same ?_; try ((repeat ((fail_if_success (refine hK _ _ ?_)); clear hK K)); refine hK _ _ ?_; clear hK K)) | (refine a_bin ?_ ?_ <;> intro _ <;> try (exfalso; omega)) | refine a_all hr ?_ (hs := congrArg some (hk _).symm) | fail)
    refine a_fw (hg _ hmem w4 hl.done) ?_
    rintro v w5 ⟨rfl, e5⟩
    have hl := hl.ext e5
    have hr := hr9.ext e5
    have hall : (l.take (i + 1)).all good = good l[i] := by rw [hta, List.all_append, hpre]; simp
    cases hgd : good l[i]
    · repeat' (first | refine a_mov ?_ | refine a_asg ?_ | refine a_binN ?_ | refine a_notb ?_ | refine a_lenv ?_ | refine a_pick_t ?_ | refine a_pick_f ?_ | refine a_not ?_ | (refine o_nil (hK _ _ ?_); clear hK K) | refine wk_reg ?_ | refine wk_seq fun K hK => ?_ | (refine wk_skip (hK _ _ ?_); clear hK K) | refine wk_block ?_ | refine wk_cond_t rfl ?_ | refine wk_cond_f rfl ?_ | (refine wk_exit ?_; (repeat (refine blockK_other rfl ?_)); refine blockK_same ?_; try ((repeat ((fail_if_success (refine hK _ _ ?_)); clear hK K)); refine hK _ _ ?_; clear hK K)) | (refine a_bin ?_ ?_ <;> intro _ <;> try (exfalso; omega)) | fail)
      refine wk_ret (retQ_tmp1 Tryz.results86 (by decide) rfl (by conv => lhs; whnf) ?_)
      refine ⟨?_, hl.done⟩
      have : l.all good = false := by
        rw [List.all_eq_false]
        exact ⟨_, hmem, by rw [hgd]; decide⟩
      unfold diffB
      rw [this]
      rfl
    rw [hgd] at hall
    repeat' (first | refine a_mov ?_ | refine a_asg ?_ | refine a_binN ?_ | refine a_notb ?_ | refine a_lenv ?_ | refine a_pick_t ?_ | refine a_pick_f ?_ | refine a_not ?_ | (refine o_nil (hK _ _ ?_); clear hK K) | refine wk_reg ?_ | refine wk_seq fun K hK => ?_ | (refine wk_skip (hK _ _ ?_); clear hK K) | refine wk_block ?_ | refine wk_cond_t rfl ?_ | refine wk_cond_f rfl ?_ | (refine wk_exit ?_; (repeat (refine blockK_other rfl ?_)); refine blockK_same ?_; try ((repeat ((fail_if_success (refine hK _ _ ?_)); clear hK K)); refine hK _ _ ?_; clear hK K)) | (refine a_bin ?_ ?_ <;> intro _ <;> try (exfalso; omega)) | refine a_all hr ?_ (hs := congrArg some (hk _).symm) | fail)
    refine a_fw (hkey _ hmem w5 hl.done) ?_
    rintro v w6 ⟨rfl, e6⟩
    have hl := hl.ext e6
    have hr := hr.ext e6
    refine o_lookup (key l[i]) hm (hl.get 1 rfl) hky rfl rfl rfl rfl rfl ?_
    rw [if_neg (by decide)]
    by_cases hin : key l[i] ∈ (l.take i).map key
    · rw [seenM_in hin]
      repeat' (first | refine a_mov ?_ | refine a_asg ?_ | refine a_binN ?_ | refine a_notb ?_ | refine a_lenv ?_ | refine a_pick_t ?_ | refine a_pick_f ?_ | refine a_not ?_ | (refine o_nil (hK _ _ ?_); clear hK K) | refine wk_reg ?_ | refine wk_seq fun K hK => ?_ | (refine wk_skip (hK _ _ ?_); clear hK K) | refine wk_block ?_ | refine wk_cond_t rfl ?_ | refine wk_cond_f rfl ?_ | (refine wk_exit ?_; (repeat (refine blockK_other rfl ?_)); refine blockK_same ?_; try ((repeat ((fail_if_success (refine hK _ _ ?_)); clear hK K)); refine hK _ _ ?_; clear hK K)) | (refine a_bin ?_ ?_ <;> intro _ <;> try (exfalso; omega)) | fail)
      refine wk_ret (retQ_tmp1 Tryz.results86 (by decide) rfl (by conv => lhs; whnf) ?_)
      refine ⟨?_, hl.done⟩
      have hno : ¬ (l.map key).Nodup := by
        intro h
        rw [← List.take_append_drop i l, List.map_append, List.nodup_append] at h
        refine h.2.2 _ hin _ ?_ rfl
        rw [List.drop_eq_getElem_cons hi1, List.map_cons]
        exact List.mem_cons_self
      unfold diffB
      rw [decide_eq_false hno]
      simp
    · rw [seenM_out hin]
      repeat' (first | refine a_mov ?_ | refine a_asg ?_ | refine a_binN ?_ | refine a_notb ?_ | refine a_lenv ?_ | refine a_pick_t ?_ | refine a_pick_f ?_ | refine a_not ?_ | (refine o_nil (hK _ _ ?_); clear hK K) | refine wk_reg ?_ | refine wk_seq fun K hK => ?_ | (refine wk_skip (hK _ _ ?_); clear hK K) | refine wk_block ?_ | refine wk_cond_t rfl ?_ | refine wk_cond_f rfl ?_ | (refine wk_exit ?_; (repeat (refine blockK_other rfl ?_)); refine blockK_same ?_; try ((repeat ((fail_if_success (refine hK _ _ ?_)); clear hK K)); refine hK _ _ ?_; clear hK K)) | (refine a_bin ?_ ?_ <;> intro _ <;> try (exfalso; omega)) | refine a_all hr ?_ (hs := congrArg some (hk _).symm) | fail)
      refine a_fw (hkey _ hmem w6 hl.done) ?_
      rintro v w7 ⟨rfl, e7⟩
      have hl := hl.ext e7
      refine o_mapUpdate (v := .bool true) (key l[i]) hl 1 rfl hm hky rfl rfl rfl rfl rfl ?_
      clear hl hm
      intro w8 es' c' hm hl
      rw [seenM_ins key _ _ hin, ← hta] at hm
      repeat' (first | refine a_mov ?_ | refine a_asg ?_ | refine a_binN ?_ | refine a_notb ?_ | refine a_lenv ?_ | refine a_pick_t ?_ | refine a_pick_f ?_ | refine a_not ?_ | (refine o_nil (hK _ _ ?_); clear hK K) | refine wk_reg ?_ | refine wk_seq fun K hK => ?_ | (refine wk_skip (hK _ _ ?_); clear hK K) | refine wk_block ?_ | refine wk_cond_t rfl ?_ | refine wk_cond_f rfl ?_ | (refine wk_exit ?_; (repeat (refine blockK_other rfl ?_)); refine blockK_same ?_; try ((repeat ((fail_if_success (refine hK _ _ ?_)); clear hK K)); refine hK _ _ ?_; clear hK K)) | (refine a_bin ?_ ?_ <;> intro _ <;> try (exfalso; omega)) | fail)
      refine o_nil ⟨i + 1, ⟨rfl, rfl, rfl, rfl, rfl, rfl, rfl, trivial⟩, rfl, ⟨by omega, hall, ?_, es', c', hm, hl.sub (List.sublist_cons_self _ _)⟩, by omega⟩
      rw [hta, List.map_append, List.nodup_append]
      refine ⟨hnd, by simp, fun a ha b hb => ?_⟩
      simp only [List.map_cons, List.map_nil, List.mem_singleton] at hb
      subst hb
      exact fun e => hin (e ▸ ha)
  · obtain rfl : i = l.length := by omega
    rw [List.take_length] at hpre hnd
    repeat' (first | refine a_mov ?_ | refine a_asg ?_ | refine a_binN ?_ | refine a_notb ?_ | refine a_lenv ?_ | refine a_pick_t ?_ | refine a_pick_f ?_ | refine a_not ?_ | (refine o_nil (hK _ _ ?_); clear hK K) | refine wk_reg ?_ | refine wk_seq fun K hK => ?_ | (refine wk_skip (hK _ _ ?_); clear hK K) | refine wk_block ?_ | refine wk_cond_t rfl ?_ | refine wk_cond_f rfl ?_ | (refine wk_exit ?_; (repeat (refine blockK_other rfl ?_)); refine blockK_same ?_; try ((repeat ((fail_if_success (refine hK _ _ ?_)); clear hK K)); refine hK _ _ ?_; clear hK K)) | (refine a_bin ?_ ?_ <;> intro _ <;> try (exfalso; omega)) | fail)
    all_goals (refine wk_ret (retQ_tmp1 Tryz.results86 (by decide) rfl (by conv => lhs; whnf) ?_))
    all_goals (refine ⟨?_, hl.done⟩; unfold diffB; rw [hpre, decide_eq_true hnd])
    · rw [decide_eq_true (by omega)]; rfl
    · rw [decide_eq_false (by omega)]; rfl
set_option maxHeartbeats 4000000 in
theorem movesDiff_calls {α : Type} {l : List α} {f : α → List Value} {key : α → IPair} {good : α → Bool} {kv gv hv : Value} {w : World} (hk : ∀ x, (f x).length = 2) (hone : ∀ x ∈ l, (f x).all Value.oneCell' = true) (hH : Sl w hv 2 (l.flatMap f)) (hlen : l.length ≤ 140737488351232)
    (hg : ∀ x ∈ l, ∀ w1, Ext w w1 → CallF Tryz.prog gv #[.agg (f x).toArray] w1 (fun v w2 => v = .bool (good x) ∧ Ext w1 w2)) (hkey : ∀ x ∈ l, ∀ w1, Ext w w1 → CallF Tryz.prog kv #[.agg (f x).toArray] w1 (fun v w2 => v = ipV (key x) ∧ Ext w1 w2)) :
    Calls Tryz.prog 93 #[hv, kv, gv] w (fun e w' => ∃ v, e = .returned v ∧ v = .bool (diffB key good l) ∧ Ext w w') := by
  obtain ⟨ka, kc, rfl, hp⟩ := sl_each hk (by decide) hH
  have hky := key_ip (P := Tryz.prog) (kt := 81) (e := 3) (kd := .i64) rfl rfl rfl
  refine calls_of Tryz.func93 rfl Tryz.ntmps93 rfl ?_
  repeat' (first | refine a_mov ?_ | refine a_asg ?_ | refine a_binN ?_ | refine a_notb ?_ | refine a_lenv ?_ | refine a_pick_t ?_ | refine a_pick_f ?_ | refine a_not ?_ | (refine o_nil (hK _ _ ?_); clear hK K) | refine wk_reg ?_ | refine wk_seq fun K hK => ?_ | (refine wk_skip (hK _ _ ?_); clear hK K) | refine wk_block ?_ | refine wk_cond_t rfl ?_ | refine wk_cond_f rfl ?_ | (refine wk_exit ?_; (repeat (refine blockK_other rfl ?_)); refine blockK_same ?_; try ((repeat ((fail_if_success (refine hK _ _ ?_)); clear hK K)); refine hK _ _ ?_; clear hK K)) | (refine a_bin ?_ ?_ <;> intro _ <;> try (exfalso; omega)) | fail)
  refine o_makeMap (LH.start w (fun _ => False)) rfl ?_
  intro b7 w1 hb7 hl
  repeat' (first | refine a_mov ?_ | refine a_asg ?_ | refine a_binN ?_ | refine a_notb ?_ | refine a_lenv ?_ | refine a_pick_t ?_ | refine a_pick_f ?_ | refine a_not ?_ | (refine o_nil (hK _ _ ?_); clear hK K) | refine wk_reg ?_ | refine wk_seq fun K hK => ?_ | (refine wk_skip (hK _ _ ?_); clear hK K) | refine wk_block ?_ | refine wk_cond_t rfl ?_ | refine wk_cond_f rfl ?_ | (refine wk_exit ?_; (repeat (refine blockK_other rfl ?_)); refine blockK_same ?_; try ((repeat ((fail_if_success (refine hK _ _ ?_)); clear hK K)); refine hK _ _ ?_; clear hK K)) | (refine a_bin ?_ ?_ <;> intro _ <;> try (exfalso; omega)) | fail)
  refine wk_loopH [] rfl (fun i : Nat => [(0, .slice ka l.length kc), (1, kv), (2, gv), (7, .map (some b7)), (11, .slice ka l.length kc), (12, .int .i64 (l.length : Int)), (13, .int .i64 (i : Int))])
    (fun i w' => i ≤ l.length ∧ (l.take i).all good = true ∧ ((l.take i).map key).Nodup ∧ ∃ es c, MapR ipV es (seenM key (l.take i)) ∧ LH w (fun _ => False) w' [(b7, .map es c)]) (fun i => l.length - i) 0 ⟨rfl, rfl, rfl, rfl, rfl, rfl, rfl, trivial⟩ ⟨Nat.zero_le _, rfl, List.nodup_nil, #[], 0, MapR.nil, hl⟩ ?_
  clear hl
  rintro i t1 w2 ⟨hi, hpre, hnd, es, c, hm, hl⟩
  by_cases hi1 : i < l.length
  · obtain ⟨b, o, hpp, hr⟩ := hp i hi1
    have hr := hr w2 hl.done
    have hmem := List.getElem_mem hi1
    have hta := List.take_succ_eq_append_getElem hi1
    repeat' (first | refine a_mov ?_ | refine a_asg ?_ | refine a_binN ?_ | refine a_notb ?_ | refine a_lenv ?_ | refine a_pick_t ?_ | refine a_pick_f ?_ | refine a_not ?_ | (refine o_nil (hK _ _ ?_); clear hK K) | refine wk_reg ?_ | refine wk_seq fun K hK => ?_ | (refine wk_skip (hK _ _ ?_); clear hK K) | refine wk_block ?_ | refine wk_cond_t rfl ?_ | refine wk_cond_f rfl ?_ | (refine wk_exit ?_; (repeat (refine blockK_other rfl ?_)); refine blockK_same ?_; try ((repeat ((fail_if_success (refine hK _ _ ?_)); clear hK K)); refine hK _ _ ?_; clear hK K)) | (refine a_bin ?_ ?_ <;> intro _ <;> try (exfalso; omega)) | refine a_idx (c := 2) i hpp ?_ | refine a_all hr ?_ (hs := congrArg some (hk _).symm) | fail)
    refine o_alloc hl [.int .i64 0, .int .i64 0] rfl (by kernel_rfl) ?_
    clear hl
    intro b9 w3 hb9 hl
    refine o_store hl 0 (f l[i]) rfl rfl rfl rfl (congrArg some (hk _).symm) (by rw [hk]; decide) (hone _ hmem) ?_
    clear hl
    intro w4 hl
    rw [putL_all _ _ _ (by rw [hk]; rfl), List.take_zero, List.nil_append] at hl
    have hl : LH w (fun _ => False) w4 [(b9, .cells (f l[i]).toArray 81 (0, 0)), (b7, .map es c)] := hl
    have hr9 : Row w4 b9 0 (f l[i]) := by
      have h9 := hl.rowL (vs := f l[i]) 0 0 2 rfl
      rwa [List.drop_zero, List.take_of_length_le (by rw [hk]; exact Nat.le_refl _)] at h9
    have hr := hr9
    repeat' (first | refine a_mov ?_ | refine a_asg ?_ | refine a_binN ?_ | refine a_notb ?_ | refine a_lenv ?_ | refine a_pick_t ?_ | refine a_pick_f ?_ | refine a_not ?_ | (refine o_nil (hK _ _ ?_); clear hK K) | refine wk_reg ?_ | refine wk_seq fun K hK => ?_ | (refine wk_skip (hK _ _ ?_); clear hK K) | refine wk_block ?_ | refine wk_cond_t rfl ?_ | refine wk_cond_f rfl ?_ | (refine wk_exit ?_; (repeat (refine blockK_other rfl ?_)); refine blockK_same ?_; try ((repeat ((fail_if_success (refine hK _ _ ?_)); clear hK K)); refine hK _ _ ?_; clear hK K)) | (refine a_bin ?_ ?_ <;> intro _ <;> try (exfalso; omega)) | refine a_all hr ?_ (hs := congrArg some (hk _).symm) | fail)
    refine a_fw (hg _ hmem w4 hl.done) ?_
    rintro v w5 ⟨rfl, e5⟩
    have hl := hl.ext e5
    have hr := hr9.ext e5
    have hall : (l.take (i + 1)).all good = good l[i] := by rw [hta, List.all_append, hpre]; simp
    cases hgd : good l[i]
    · repeat' (first | refine a_mov ?_ | refine a_asg ?_ | refine a_binN ?_ | refine a_notb ?_ | refine a_lenv ?_ | refine a_pick_t ?_ | refine a_pick_f ?_ | refine a_not ?_ | (refine o_nil (hK _ _ ?_); clear hK K) | refine wk_reg ?_ | refine wk_seq fun K hK => ?_ | (refine wk_skip (hK _ _ ?_); clear hK K) | refine wk_block ?_ | refine wk_cond_t rfl ?_ | refine wk_cond_f rfl ?_ | (refine wk_exit ?_; (repeat (refine blockK_other rfl ?_)); refine blockK_same ?_; try ((repeat ((fail_if_success (refine hK _ _ ?_)); clear hK K)); refine hK _ _ ?_; clear hK K)) | (refine a_bin ?_ ?_ <;> intro _ <;> try (exfalso; omega)) | fail)
      refine wk_ret (retQ_tmp1 Tryz.results93 (by decide) rfl (by conv => lhs; whnf) ?_)
      refine ⟨?_, hl.done⟩
      have : l.all good = false := by
        rw [List.all_eq_false]
        exact ⟨_, hmem, by rw [hgd]; decide⟩
      unfold diffB
      rw [this]
      rfl
    rw [hgd] at hall
    repeat' (first | refine a_mov ?_ | refine a_asg ?_ | refine a_binN ?_ | refine a_notb ?_ | refine a_lenv ?_ | refine a_pick_t ?_ | refine a_pick_f ?_ | refine a_not ?_ | (refine o_nil (hK _ _ ?_); clear hK K) | refine wk_reg ?_ | refine wk_seq fun K hK => ?_ | (refine wk_skip (hK _ _ ?_); clear hK K) | refine wk_block ?_ | refine wk_cond_t rfl ?_ | refine wk_cond_f rfl ?_ | (refine wk_exit ?_; (repeat (refine blockK_other rfl ?_)); refine blockK_same ?_; try ((repeat ((fail_if_success (refine hK _ _ ?_)); clear hK K)); refine hK _ _ ?_; clear hK K)) | (refine a_bin ?_ ?_ <;> intro _ <;> try (exfalso; omega)) | refine a_all hr ?_ (hs := congrArg some (hk _).symm) | fail)
    refine a_fw (hkey _ hmem w5 hl.done) ?_
    rintro v w6 ⟨rfl, e6⟩
    have hl := hl.ext e6
    have hr := hr.ext e6
    refine o_lookup (key l[i]) hm (hl.get 1 rfl) hky rfl rfl rfl rfl rfl ?_
    rw [if_neg (by decide)]
    by_cases hin : key l[i] ∈ (l.take i).map key
    · rw [seenM_in hin]
      repeat' (first | refine a_mov ?_ | refine a_asg ?_ | refine a_binN ?_ | refine a_notb ?_ | refine a_lenv ?_ | refine a_pick_t ?_ | refine a_pick_f ?_ | refine a_not ?_ | (refine o_nil (hK _ _ ?_); clear hK K) | refine wk_reg ?_ | refine wk_seq fun K hK => ?_ | (refine wk_skip (hK _ _ ?_); clear hK K) | refine wk_block ?_ | refine wk_cond_t rfl ?_ | refine wk_cond_f rfl ?_ | (refine wk_exit ?_; (repeat (refine blockK_other rfl ?_)); refine blockK_same ?_; try ((repeat ((fail_if_success (refine hK _ _ ?_)); clear hK K)); refine hK _ _ ?_; clear hK K)) | (refine a_bin ?_ ?_ <;> intro _ <;> try (exfalso; omega)) | fail)
      refine wk_ret (retQ_tmp1 Tryz.results93 (by decide) rfl (by conv => lhs; whnf) ?_)
      refine ⟨?_, hl.done⟩
      have hno : ¬ (l.map key).Nodup := by
        intro h
        rw [← List.take_append_drop i l, List.map_append, List.nodup_append] at h
        refine h.2.2 _ hin _ ?_ rfl
        rw [List.drop_eq_getElem_cons hi1, List.map_cons]
        exact List.mem_cons_self
      unfold diffB
      rw [decide_eq_false hno]
      simp
    · rw [seenM_out hin]
      repeat' (first | refine a_mov ?_ | refine a_asg ?_ | refine a_binN ?_ | refine a_notb ?_ | refine a_lenv ?_ | refine a_pick_t ?_ | refine a_pick_f ?_ | refine a_not ?_ | (refine o_nil (hK _ _ ?_); clear hK K) | refine wk_reg ?_ | refine wk_seq fun K hK => ?_ | (refine wk_skip (hK _ _ ?_); clear hK K) | refine wk_block ?_ | refine wk_cond_t rfl ?_ | refine wk_cond_f rfl ?_ | (refine wk_exit ?_; (repeat (refine blockK_other rfl ?_)); refine blockK_same ?_; try ((repeat ((fail_if_success (refine hK _ _ ?_)); clear hK K)); refine hK _ _ ?_; clear hK K)) | (refine a_bin ?_ ?_ <;> intro _ <;> try (exfalso; omega)) | refine a_all hr ?_ (hs := congrArg some (hk _).symm) | fail)
      refine a_fw (hkey _ hmem w6 hl.done) ?_
      rintro v w7 ⟨rfl, e7⟩
      have hl := hl.ext e7
      refine o_mapUpdate (v := .bool true) (key l[i]) hl 1 rfl hm hky rfl rfl rfl rfl rfl ?_
      clear hl hm
      intro w8 es' c' hm hl
      rw [seenM_ins key _ _ hin, ← hta] at hm
      repeat' (first | refine a_mov ?_ | refine a_asg ?_ | refine a_binN ?_ | refine a_notb ?_ | refine a_lenv ?_ | refine a_pick_t ?_ | refine a_pick_f ?_ | refine a_not ?_ | (refine o_nil (hK _ _ ?_); clear hK K) | refine wk_reg ?_ | refine wk_seq fun K hK => ?_ | (refine wk_skip (hK _ _ ?_); clear hK K) | refine wk_block ?_ | refine wk_cond_t rfl ?_ | refine wk_cond_f rfl ?_ | (refine wk_exit ?_; (repeat (refine blockK_other rfl ?_)); refine blockK_same ?_; try ((repeat ((fail_if_success (refine hK _ _ ?_)); clear hK K)); refine hK _ _ ?_; clear hK K)) | (refine a_bin ?_ ?_ <;> intro _ <;> try (exfalso; omega)) | fail)
      refine o_nil ⟨i + 1, ⟨rfl, rfl, rfl, rfl, rfl, rfl, rfl, trivial⟩, rfl, ⟨by omega, hall, ?_, es', c', hm, hl.sub (List.sublist_cons_self _ _)⟩, by omega⟩
      rw [hta, List.map_append, List.nodup_append]
      refine ⟨hnd, by simp, fun a ha b hb => ?_⟩
      simp only [List.map_cons, List.map_nil, List.mem_singleton] at hb
      subst hb
      exact fun e => hin (e ▸ ha)
  · obtain rfl : i = l.length := by omega
    rw [List.take_length] at hpre hnd
    repeat' (first | refine a_mov ?_ | refine a_asg ?_ | refine a_binN ?_ | refine a_notb ?_ | refine a_lenv ?_ | refine a_pick_t ?_ | refine a_pick_f ?_ | refine a_not ?_ | (refine o_nil (hK _ _ ?_); clear hK K) | refine wk_reg ?_ | refine wk_seq fun K hK => ?_ | (refine wk_skip (hK _ _ ?_); clear hK K) | refine wk_block ?_ | refine wk_cond_t rfl ?_ | refine wk_cond_f rfl ?_ | (refine wk_exit ?_; (repeat (refine blockK_other rfl ?_)); refine blockK_same ?_; try ((repeat ((fail_if_success (refine hK _ _ ?_)); clear hK K)); refine hK _ _ ?_; clear hK K)) | (refine a_bin ?_ ?_ <;> intro _ <;> try (exfalso; omega)) | fail)
    all_goals (refine wk_ret (retQ_tmp1 Tryz.results93 (by decide) rfl (by conv => lhs; whnf) ?_))
    all_goals (refine ⟨?_, hl.done⟩; unfold diffB; rw [hpre, decide_eq_true hnd])
    · rw [decide_eq_true (by omega)]; rfl
    · rw [decide_eq_false (by omega)]; rfl
set_option maxHeartbeats 4000000 in
theorem rightDiff_calls {α : Type} {l : List α} {f : α → List Value} {key : α → Tx} {good : α → Bool} {kv gv hv : Value} {w : World} (hk : ∀ x, (f x).length = 2) (hone : ∀ x ∈ l, (f x).all Value.oneCell' = true) (hH : Sl w hv 2 (l.flatMap f)) (hlen : l.length ≤ 140737488351232)
    (hg : ∀ x ∈ l, ∀ w1, Ext w w1 → CallF Tryz.prog gv #[.agg (f x).toArray] w1 (fun v w2 => v = .bool (good x) ∧ Ext w1 w2)) (hkey : ∀ x ∈ l, ∀ w1, Ext w w1 → CallF Tryz.prog kv #[.agg (f x).toArray] w1 (fun v w2 => v = str (key x) ∧ Ext w1 w2)) :
    Calls Tryz.prog 83 #[hv, kv, gv] w (fun e w' => ∃ v, e = .returned v ∧ v = .bool (diffB key good l) ∧ Ext w w') := by
  obtain ⟨ka, kc, rfl, hp⟩ := sl_each hk (by decide) hH
  have hky := key_str (P := Tryz.prog) (kt := 9) rfl
  refine calls_of Tryz.func83 rfl Tryz.ntmps83 rfl ?_
  repeat' (first | refine a_mov ?_ | refine a_asg ?_ | refine a_binN ?_ | refine a_notb ?_ | refine a_lenv ?_ | refine a_pick_t ?_ | refine a_pick_f ?_ | refine a_not ?_ | (refine o_nil (hK _ _ ?_); clear hK K) | refine wk_reg ?_ | refine wk_seq fun K hK => ?_ | (refine wk_skip (hK _ _ ?_); clear hK K) | refine wk_block ?_ | refine wk_cond_t rfl ?_ | refine wk_cond_f rfl ?_ | (refine wk_exit ?_; (repeat (refine blockK_other rfl ?_)); refine blockK_same ?_; try ((repeat ((fail_if_success (refine hK _ _ ?_)); clear hK K)); refine hK _ _ ?_; clear hK K)) | (refine a_bin ?_ ?_ <;> intro _ <;> try (exfalso; omega)) | fail)
  refine o_makeMap (LH.start w (fun _ => False)) rfl ?_
  intro b7 w1 hb7 hl
  repeat' (first | refine a_mov ?_ | refine a_asg ?_ | refine a_binN ?_ | refine a_notb ?_ | refine a_lenv ?_ | refine a_pick_t ?_ | refine a_pick_f ?_ | refine a_not ?_ | (refine o_nil (hK _ _ ?_); clear hK K) | refine wk_reg ?_ | refine wk_seq fun K hK => ?_ | (refine wk_skip (hK _ _ ?_); clear hK K) | refine wk_block ?_ | refine wk_cond_t rfl ?_ | refine wk_cond_f rfl ?_ | (refine wk_exit ?_; (repeat (refine blockK_other rfl ?_)); refine blockK_same ?_; try ((repeat ((fail_if_success (refine hK _ _ ?_)); clear hK K)); refine hK _ _ ?_; clear hK K)) | (refine a_bin ?_ ?_ <;> intro _ <;> try (exfalso; omega)) | fail)
  refine wk_loopH [] rfl (fun i : Nat => [(0, .slice ka l.length kc), (1, kv), (2, gv), (7, .map (some b7)), (11, .slice ka l.length kc), (12, .int .i64 (l.length : Int)), (13, .int .i64 (i : Int))])
    (fun i w' => i ≤ l.length ∧ (l.take i).all good = true ∧ ((l.take i).map key).Nodup ∧ ∃ es c, MapR str es (seenM key (l.take i)) ∧ LH w (fun _ => False) w' [(b7, .map es c)]) (fun i => l.length - i) 0 ⟨rfl, rfl, rfl, rfl, rfl, rfl, rfl, trivial⟩ ⟨Nat.zero_le _, rfl, List.nodup_nil, #[], 0, MapR.nil, hl⟩ ?_
  clear hl
  rintro i t1 w2 ⟨hi, hpre, hnd, es, c, hm, hl⟩
  by_cases hi1 : i < l.length
  · obtain ⟨b, o, hpp, hr⟩ := hp i hi1
    have hr := hr w2 hl.done
    have hmem := List.getElem_mem hi1
    have hta := List.take_succ_eq_append_getElem hi1
    repeat' (first | refine a_mov ?_ | refine a_asg ?_ | refine a_binN ?_ | refine a_notb ?_ | refine a_lenv ?_ | refine a_pick_t ?_ | refine a_pick_f ?_ | refine a_not ?_ | (refine o_nil (hK _ _ ?_); clear hK K) | refine wk_reg ?_ | refine wk_seq fun K hK => ?_ | (refine wk_skip (hK _ _ ?_); clear hK K) | refine wk_block ?_ | refine wk_cond_t rfl ?_ | refine wk_cond_f rfl ?_ | (refine wk_exit ?_; (repeat (refine blockK_other rfl ?_)); refine blockK_same ?_; try ((repeat ((fail_if_success (refine hK _ _ ?_)); clear hK K)); refine hK _ _ ?_; clear hK K)) | (refine a_bin ?_ ?_ <;> intro _ <;> try (exfalso; omega)) | refine a_idx (c := 2) i hpp ?_ | refine a_all hr ?_ (hs := congrArg some (hk _).symm) | fail)
    refine o_alloc hl [.string ⟨#[]⟩, .int .i64 0] rfl (by kernel_rfl) ?_
    clear hl
    intro b9 w3 hb9 hl
    refine o_store hl 0 (f l[i]) rfl rfl rfl rfl (congrArg some (hk _).symm) (by rw [hk]; decide) (hone _ hmem) ?_
    clear hl
    intro w4 hl
    rw [putL_all _ _ _ (by rw [hk]; rfl), List.take_zero, List.nil_append] at hl
    have hl : LH w (fun _ => False) w4 [(b9, .cells (f l[i]).toArray 51 (0, 0)), (b7, .map es c)] := hl
    have hr9 : Row w4 b9 0 (f l[i]) := by
      have h9 := hl.rowL (vs := f l[i]) 0 0 2 rfl
      rwa [List.drop_zero, List.take_of_length_le (by rw [hk]; exact Nat.le_refl _)] at h9
    have hr := hr9
    repeat' (first | refine a_mov ?_ | refine a_asg ?_ | refine a_binN ?_ | refine a_notb ?_ | refine a_lenv ?_ | refine a_pick_t ?_ | refine a_pick_f ?_ | refine a_not ?_ | (refine o_nil (hK _ _ ?_); clear hK K) | refine wk_reg ?_ | refine wk_seq fun K hK => ?_ | (refine wk_skip (hK _ _ ?_); clear hK K) | refine wk_block ?_ | refine wk_cond_t rfl ?_ | refine wk_cond_f rfl ?_ | (refine wk_exit ?_; (repeat (refine blockK_other rfl ?_)); refine blockK_same ?_; try ((repeat ((fail_if_success (refine hK _ _ ?_)); clear hK K)); refine hK _ _ ?_; clear hK K)) | (refine a_bin ?_ ?_ <;> intro _ <;> try (exfalso; omega)) | refine a_all hr ?_ (hs := congrArg some (hk _).symm) | fail)
    refine a_fw (hg _ hmem w4 hl.done) ?_
    rintro v w5 ⟨rfl, e5⟩
    have hl := hl.ext e5
    have hr := hr9.ext e5
    have hall : (l.take (i + 1)).all good = good l[i] := by rw [hta, List.all_append, hpre]; simp
    cases hgd : good l[i]
    · repeat' (first | refine a_mov ?_ | refine a_asg ?_ | refine a_binN ?_ | refine a_notb ?_ | refine a_lenv ?_ | refine a_pick_t ?_ | refine a_pick_f ?_ | refine a_not ?_ | (refine o_nil (hK _ _ ?_); clear hK K) | refine wk_reg ?_ | refine wk_seq fun K hK => ?_ | (refine wk_skip (hK _ _ ?_); clear hK K) | refine wk_block ?_ | refine wk_cond_t rfl ?_ | refine wk_cond_f rfl ?_ | (refine wk_exit ?_; (repeat (refine blockK_other rfl ?_)); refine blockK_same ?_; try ((repeat ((fail_if_success (refine hK _ _ ?_)); clear hK K)); refine hK _ _ ?_; clear hK K)) | (refine a_bin ?_ ?_ <;> intro _ <;> try (exfalso; omega)) | fail)
      refine wk_ret (retQ_tmp1 Tryz.results83 (by decide) rfl (by conv => lhs; whnf) ?_)
      refine ⟨?_, hl.done⟩
      have : l.all good = false := by
        rw [List.all_eq_false]
        exact ⟨_, hmem, by rw [hgd]; decide⟩
      unfold diffB
      rw [this]
      rfl
    rw [hgd] at hall
    repeat' (first | refine a_mov ?_ | refine a_asg ?_ | refine a_binN ?_ | refine a_notb ?_ | refine a_lenv ?_ | refine a_pick_t ?_ | refine a_pick_f ?_ | refine a_not ?_ | (refine o_nil (hK _ _ ?_); clear hK K) | refine wk_reg ?_ | refine wk_seq fun K hK => ?_ | (refine wk_skip (hK _ _ ?_); clear hK K) | refine wk_block ?_ | refine wk_cond_t rfl ?_ | refine wk_cond_f rfl ?_ | (refine wk_exit ?_; (repeat (refine blockK_other rfl ?_)); refine blockK_same ?_; try ((repeat ((fail_if_success (refine hK _ _ ?_)); clear hK K)); refine hK _ _ ?_; clear hK K)) | (refine a_bin ?_ ?_ <;> intro _ <;> try (exfalso; omega)) | refine a_all hr ?_ (hs := congrArg some (hk _).symm) | fail)
    refine a_fw (hkey _ hmem w5 hl.done) ?_
    rintro v w6 ⟨rfl, e6⟩
    have hl := hl.ext e6
    have hr := hr.ext e6
    refine o_lookup (key l[i]) hm (hl.get 1 rfl) hky rfl rfl rfl rfl rfl ?_
    rw [if_neg (by decide)]
    by_cases hin : key l[i] ∈ (l.take i).map key
    · rw [seenM_in hin]
      repeat' (first | refine a_mov ?_ | refine a_asg ?_ | refine a_binN ?_ | refine a_notb ?_ | refine a_lenv ?_ | refine a_pick_t ?_ | refine a_pick_f ?_ | refine a_not ?_ | (refine o_nil (hK _ _ ?_); clear hK K) | refine wk_reg ?_ | refine wk_seq fun K hK => ?_ | (refine wk_skip (hK _ _ ?_); clear hK K) | refine wk_block ?_ | refine wk_cond_t rfl ?_ | refine wk_cond_f rfl ?_ | (refine wk_exit ?_; (repeat (refine blockK_other rfl ?_)); refine blockK_same ?_; try ((repeat ((fail_if_success (refine hK _ _ ?_)); clear hK K)); refine hK _ _ ?_; clear hK K)) | (refine a_bin ?_ ?_ <;> intro _ <;> try (exfalso; omega)) | fail)
      refine wk_ret (retQ_tmp1 Tryz.results83 (by decide) rfl (by conv => lhs; whnf) ?_)
      refine ⟨?_, hl.done⟩
      have hno : ¬ (l.map key).Nodup := by
        intro h
        rw [← List.take_append_drop i l, List.map_append, List.nodup_append] at h
        refine h.2.2 _ hin _ ?_ rfl
        rw [List.drop_eq_getElem_cons hi1, List.map_cons]
        exact List.mem_cons_self
      unfold diffB
      rw [decide_eq_false hno]
      simp
    · rw [seenM_out hin]
      repeat' (first | refine a_mov ?_ | refine a_asg ?_ | refine a_binN ?_ | refine a_notb ?_ | refine a_lenv ?_ | refine a_pick_t ?_ | refine a_pick_f ?_ | refine a_not ?_ | (refine o_nil (hK _ _ ?_); clear hK K) | refine wk_reg ?_ | refine wk_seq fun K hK => ?_ | (refine wk_skip (hK _ _ ?_); clear hK K) | refine wk_block ?_ | refine wk_cond_t rfl ?_ | refine wk_cond_f rfl ?_ | (refine wk_exit ?_; (repeat (refine blockK_other rfl ?_)); refine blockK_same ?_; try ((repeat ((fail_if_success (refine hK _ _ ?_)); clear hK K)); refine hK _ _ ?_; clear hK K)) | (refine a_bin ?_ ?_ <;> intro _ <;> try (exfalso; omega)) | refine a_all hr ?_ (hs := congrArg some (hk _).symm) | fail)
      refine a_fw (hkey _ hmem w6 hl.done) ?_
      rintro v w7 ⟨rfl, e7⟩
      have hl := hl.ext e7
      refine o_mapUpdate (v := .bool true) (key l[i]) hl 1 rfl hm hky rfl rfl rfl rfl rfl ?_
      clear hl hm
      intro w8 es' c' hm hl
      rw [seenM_ins key _ _ hin, ← hta] at hm
      repeat' (first | refine a_mov ?_ | refine a_asg ?_ | refine a_binN ?_ | refine a_notb ?_ | refine a_lenv ?_ | refine a_pick_t ?_ | refine a_pick_f ?_ | refine a_not ?_ | (refine o_nil (hK _ _ ?_); clear hK K) | refine wk_reg ?_ | refine wk_seq fun K hK => ?_ | (refine wk_skip (hK _ _ ?_); clear hK K) | refine wk_block ?_ | refine wk_cond_t rfl ?_ | refine wk_cond_f rfl ?_ | (refine wk_exit ?_; (repeat (refine blockK_other rfl ?_)); refine blockK_same ?_; try ((repeat ((fail_if_success (refine hK _ _ ?_)); clear hK K)); refine hK _ _ ?_; clear hK K)) | (refine a_bin ?_ ?_ <;> intro _ <;> try (exfalso; omega)) | fail)
      refine o_nil ⟨i + 1, ⟨rfl, rfl, rfl, rfl, rfl, rfl, rfl, trivial⟩, rfl, ⟨by omega, hall, ?_, es', c', hm, hl.sub (List.sublist_cons_self _ _)⟩, by omega⟩
      rw [hta, List.map_append, List.nodup_append]
      refine ⟨hnd, by simp, fun a ha b hb => ?_⟩
      simp only [List.map_cons, List.map_nil, List.mem_singleton] at hb
      subst hb
      exact fun e => hin (e ▸ ha)
  · obtain rfl : i = l.length := by omega
    rw [List.take_length] at hpre hnd
    repeat' (first | refine a_mov ?_ | refine a_asg ?_ | refine a_binN ?_ | refine a_notb ?_ | refine a_lenv ?_ | refine a_pick_t ?_ | refine a_pick_f ?_ | refine a_not ?_ | (refine o_nil (hK _ _ ?_); clear hK K) | refine wk_reg ?_ | refine wk_seq fun K hK => ?_ | (refine wk_skip (hK _ _ ?_); clear hK K) | refine wk_block ?_ | refine wk_cond_t rfl ?_ | refine wk_cond_f rfl ?_ | (refine wk_exit ?_; (repeat (refine blockK_other rfl ?_)); refine blockK_same ?_; try ((repeat ((fail_if_success (refine hK _ _ ?_)); clear hK K)); refine hK _ _ ?_; clear hK K)) | (refine a_bin ?_ ?_ <;> intro _ <;> try (exfalso; omega)) | fail)
    all_goals (refine wk_ret (retQ_tmp1 Tryz.results83 (by decide) rfl (by conv => lhs; whnf) ?_))
    all_goals (refine ⟨?_, hl.done⟩; unfold diffB; rw [hpre, decide_eq_true hnd])
    · rw [decide_eq_true (by omega)]; rfl
    · rw [decide_eq_false (by omega)]; rfl
set_option maxHeartbeats 4000000 in
theorem textDiff_calls {l : List Tx} {key : Tx → Tx} {good : Tx → Bool} {kv gv hv : Value} {w : World} (hH : Sl w hv 1 (l.flatMap fun s => [str s])) (hlen : l.length ≤ 140737488351232)
    (hg : ∀ x ∈ l, ∀ w1, Ext w w1 → CallF Tryz.prog gv #[str x] w1 (fun v w2 => v = .bool (good x) ∧ Ext w1 w2)) (hkey : ∀ x ∈ l, ∀ w1, Ext w w1 → CallF Tryz.prog kv #[str x] w1 (fun v w2 => v = str (key x) ∧ Ext w1 w2)) :
    Calls Tryz.prog 91 #[hv, kv, gv] w (fun e w' => ∃ v, e = .returned v ∧ v = .bool (diffB key good l) ∧ Ext w w') := by
  obtain ⟨ka, kc, rfl, hp⟩ := sl_each (f := fun s : Tx => [str s]) (fun _ => rfl) (by decide) hH
  have hky := key_str (P := Tryz.prog) (kt := 9) rfl
  refine calls_of Tryz.func91 rfl Tryz.ntmps91 rfl ?_
  repeat' (first | refine a_mov ?_ | refine a_asg ?_ | refine a_binN ?_ | refine a_notb ?_ | refine a_lenv ?_ | refine a_pick_t ?_ | refine a_pick_f ?_ | refine a_not ?_ | (refine o_nil (hK _ _ ?_); clear hK K) | refine wk_reg ?_ | refine wk_seq fun K hK => ?_ | (refine wk_skip (hK _ _ ?_); clear hK K) | refine wk_block ?_ | refine wk_cond_t rfl ?_ | refine wk_cond_f rfl ?_ | (refine wk_exit ?_; (repeat (refine blockK_other rfl ?_)); refine blockK_same ?_; try ((repeat ((fail_if_success (refine hK _ _ ?_)); clear hK K)); refine hK _ _ ?_; clear hK K)) | (refine a_bin ?_ ?_ <;> intro _ <;> try (exfalso; omega)) | fail)
  refine o_makeMap (LH.start w (fun _ => False)) rfl ?_
  intro b7 w1 hb7 hl
  repeat' (first | refine a_mov ?_ | refine a_asg ?_ | refine a_binN ?_ | refine a_notb ?_ | refine a_lenv ?_ | refine a_pick_t ?_ | refine a_pick_f ?_ | refine a_not ?_ | (refine o_nil (hK _ _ ?_); clear hK K) | refine wk_reg ?_ | refine wk_seq fun K hK => ?_ | (refine wk_skip (hK _ _ ?_); clear hK K) | refine wk_block ?_ | refine wk_cond_t rfl ?_ | refine wk_cond_f rfl ?_ | (refine wk_exit ?_; (repeat (refine blockK_other rfl ?_)); refine blockK_same ?_; try ((repeat ((fail_if_success (refine hK _ _ ?_)); clear hK K)); refine hK _ _ ?_; clear hK K)) | (refine a_bin ?_ ?_ <;> intro _ <;> try (exfalso; omega)) | fail)
  refine wk_loopH [] rfl (fun i : Nat => [(0, .slice ka l.length kc), (1, kv), (2, gv), (7, .map (some b7)), (11, .slice ka l.length kc), (12, .int .i64 (l.length : Int)), (13, .int .i64 (i : Int))])
    (fun i w' => i ≤ l.length ∧ (l.take i).all good = true ∧ ((l.take i).map key).Nodup ∧ ∃ es c, MapR str es (seenM key (l.take i)) ∧ LH w (fun _ => False) w' [(b7, .map es c)]) (fun i => l.length - i) 0 ⟨rfl, rfl, rfl, rfl, rfl, rfl, rfl, trivial⟩ ⟨Nat.zero_le _, rfl, List.nodup_nil, #[], 0, MapR.nil, hl⟩ ?_
  clear hl
  rintro i t1 w2 ⟨hi, hpre, hnd, es, c, hm, hl⟩
  by_cases hi1 : i < l.length
  · obtain ⟨b, o, hpp, hr⟩ := hp i hi1
    have hr := hr w2 hl.done
    have hmem := List.getElem_mem hi1
    have hta := List.take_succ_eq_append_getElem hi1
    repeat' (first | refine a_mov ?_ | refine a_asg ?_ | refine a_binN ?_ | refine a_notb ?_ | refine a_lenv ?_ | refine a_pick_t ?_ | refine a_pick_f ?_ | refine a_not ?_ | (refine o_nil (hK _ _ ?_); clear hK K) | refine wk_reg ?_ | refine wk_seq fun K hK => ?_ | (refine wk_skip (hK _ _ ?_); clear hK K) | refine wk_block ?_ | refine wk_cond_t rfl ?_ | refine wk_cond_f rfl ?_ | (refine wk_exit ?_; (repeat (refine blockK_other rfl ?_)); refine blockK_same ?_; try ((repeat ((fail_if_success (refine hK _ _ ?_)); clear hK K)); refine hK _ _ ?_; clear hK K)) | (refine a_bin ?_ ?_ <;> intro _ <;> try (exfalso; omega)) | refine a_idx (c := 1) i hpp ?_ | refine a_row hr ?_ | fail)
    refine a_fw (hg _ hmem w2 hl.done) ?_
    rintro v w5 ⟨rfl, e5⟩
    have hl := hl.ext e5
    have hall : (l.take (i + 1)).all good = good l[i] := by rw [hta, List.all_append, hpre]; simp
    cases hgd : good l[i]
    · repeat' (first | refine a_mov ?_ | refine a_asg ?_ | refine a_binN ?_ | refine a_notb ?_ | refine a_lenv ?_ | refine a_pick_t ?_ | refine a_pick_f ?_ | refine a_not ?_ | (refine o_nil (hK _ _ ?_); clear hK K) | refine wk_reg ?_ | refine wk_seq fun K hK => ?_ | (refine wk_skip (hK _ _ ?_); clear hK K) | refine wk_block ?_ | refine wk_cond_t rfl ?_ | refine wk_cond_f rfl ?_ | (refine wk_exit ?_; (repeat (refine blockK_other rfl ?_)); refine blockK_same ?_; try ((repeat ((fail_if_success (refine hK _ _ ?_)); clear hK K)); refine hK _ _ ?_; clear hK K)) | (refine a_bin ?_ ?_ <;> intro _ <;> try (exfalso; omega)) | fail)
      refine wk_ret (retQ_tmp1 Tryz.results91 (by decide) rfl (by conv => lhs; whnf) ?_)
      refine ⟨?_, hl.done⟩
      have : l.all good = false := by
        rw [List.all_eq_false]
        exact ⟨_, hmem, by rw [hgd]; decide⟩
      unfold diffB
      rw [this]
      rfl
    rw [hgd] at hall
    repeat' (first | refine a_mov ?_ | refine a_asg ?_ | refine a_binN ?_ | refine a_notb ?_ | refine a_lenv ?_ | refine a_pick_t ?_ | refine a_pick_f ?_ | refine a_not ?_ | (refine o_nil (hK _ _ ?_); clear hK K) | refine wk_reg ?_ | refine wk_seq fun K hK => ?_ | (refine wk_skip (hK _ _ ?_); clear hK K) | refine wk_block ?_ | refine wk_cond_t rfl ?_ | refine wk_cond_f rfl ?_ | (refine wk_exit ?_; (repeat (refine blockK_other rfl ?_)); refine blockK_same ?_; try ((repeat ((fail_if_success (refine hK _ _ ?_)); clear hK K)); refine hK _ _ ?_; clear hK K)) | (refine a_bin ?_ ?_ <;> intro _ <;> try (exfalso; omega)) | refine a_row hr ?_ | fail)
    refine a_fw (hkey _ hmem w5 hl.done) ?_
    rintro v w6 ⟨rfl, e6⟩
    have hl := hl.ext e6
    refine o_lookup (key l[i]) hm (hl.get 0 rfl) hky rfl rfl rfl rfl rfl ?_
    rw [if_neg (by decide)]
    by_cases hin : key l[i] ∈ (l.take i).map key
    · rw [seenM_in hin]
      repeat' (first | refine a_mov ?_ | refine a_asg ?_ | refine a_binN ?_ | refine a_notb ?_ | refine a_lenv ?_ | refine a_pick_t ?_ | refine a_pick_f ?_ | refine a_not ?_ | (refine o_nil (hK _ _ ?_); clear hK K) | refine wk_reg ?_ | refine wk_seq fun K hK => ?_ | (refine wk_skip (hK _ _ ?_); clear hK K) | refine wk_block ?_ | refine wk_cond_t rfl ?_ | refine wk_cond_f rfl ?_ | (refine wk_exit ?_; (repeat (refine blockK_other rfl ?_)); refine blockK_same ?_; try ((repeat ((fail_if_success (refine hK _ _ ?_)); clear hK K)); refine hK _ _ ?_; clear hK K)) | (refine a_bin ?_ ?_ <;> intro _ <;> try (exfalso; omega)) | fail)
      refine wk_ret (retQ_tmp1 Tryz.results91 (by decide) rfl (by conv => lhs; whnf) ?_)
      refine ⟨?_, hl.done⟩
      have hno : ¬ (l.map key).Nodup := by
        intro h
        rw [← List.take_append_drop i l, List.map_append, List.nodup_append] at h
        refine h.2.2 _ hin _ ?_ rfl
        rw [List.drop_eq_getElem_cons hi1, List.map_cons]
        exact List.mem_cons_self
      unfold diffB
      rw [decide_eq_false hno]
      simp
    · rw [seenM_out hin]
      repeat' (first | refine a_mov ?_ | refine a_asg ?_ | refine a_binN ?_ | refine a_notb ?_ | refine a_lenv ?_ | refine a_pick_t ?_ | refine a_pick_f ?_ | refine a_not ?_ | (refine o_nil (hK _ _ ?_); clear hK K) | refine wk_reg ?_ | refine wk_seq fun K hK => ?_ | (refine wk_skip (hK _ _ ?_); clear hK K) | refine wk_block ?_ | refine wk_cond_t rfl ?_ | refine wk_cond_f rfl ?_ | (refine wk_exit ?_; (repeat (refine blockK_other rfl ?_)); refine blockK_same ?_; try ((repeat ((fail_if_success (refine hK _ _ ?_)); clear hK K)); refine hK _ _ ?_; clear hK K)) | (refine a_bin ?_ ?_ <;> intro _ <;> try (exfalso; omega)) | refine a_row hr ?_ | fail)
      refine a_fw (hkey _ hmem w6 hl.done) ?_
      rintro v w7 ⟨rfl, e7⟩
      have hl := hl.ext e7
      refine o_mapUpdate (v := .bool true) (key l[i]) hl 0 rfl hm hky rfl rfl rfl rfl rfl ?_
      clear hl hm
      intro w8 es' c' hm hl
      rw [seenM_ins key _ _ hin, ← hta] at hm
      repeat' (first | refine a_mov ?_ | refine a_asg ?_ | refine a_binN ?_ | refine a_notb ?_ | refine a_lenv ?_ | refine a_pick_t ?_ | refine a_pick_f ?_ | refine a_not ?_ | (refine o_nil (hK _ _ ?_); clear hK K) | refine wk_reg ?_ | refine wk_seq fun K hK => ?_ | (refine wk_skip (hK _ _ ?_); clear hK K) | refine wk_block ?_ | refine wk_cond_t rfl ?_ | refine wk_cond_f rfl ?_ | (refine wk_exit ?_; (repeat (refine blockK_other rfl ?_)); refine blockK_same ?_; try ((repeat ((fail_if_success (refine hK _ _ ?_)); clear hK K)); refine hK _ _ ?_; clear hK K)) | (refine a_bin ?_ ?_ <;> intro _ <;> try (exfalso; omega)) | fail)
      refine o_nil ⟨i + 1, ⟨rfl, rfl, rfl, rfl, rfl, rfl, rfl, trivial⟩, rfl, ⟨by omega, hall, ?_, es', c', hm, hl⟩, by omega⟩
      rw [hta, List.map_append, List.nodup_append]
      refine ⟨hnd, by simp, fun a ha b hb => ?_⟩
      simp only [List.map_cons, List.map_nil, List.mem_singleton] at hb
      subst hb
      exact fun e => hin (e ▸ ha)
  · obtain rfl : i = l.length := by omega
    rw [List.take_length] at hpre hnd
    repeat' (first | refine a_mov ?_ | refine a_asg ?_ | refine a_binN ?_ | refine a_notb ?_ | refine a_lenv ?_ | refine a_pick_t ?_ | refine a_pick_f ?_ | refine a_not ?_ | (refine o_nil (hK _ _ ?_); clear hK K) | refine wk_reg ?_ | refine wk_seq fun K hK => ?_ | (refine wk_skip (hK _ _ ?_); clear hK K) | refine wk_block ?_ | refine wk_cond_t rfl ?_ | refine wk_cond_f rfl ?_ | (refine wk_exit ?_; (repeat (refine blockK_other rfl ?_)); refine blockK_same ?_; try ((repeat ((fail_if_success (refine hK _ _ ?_)); clear hK K)); refine hK _ _ ?_; clear hK K)) | (refine a_bin ?_ ?_ <;> intro _ <;> try (exfalso; omega)) | fail)
    all_goals (refine wk_ret (retQ_tmp1 Tryz.results91 (by decide) rfl (by conv => lhs; whnf) ?_))
    all_goals (refine ⟨?_, hl.done⟩; unfold diffB; rw [hpre, decide_eq_true hnd])
    · rw [decide_eq_true (by omega)]; rfl
    · rw [decide_eq_false (by omega)]; rfl
end Go.Proofs
