/- IncidentPlans: Plan returns the specified teams, or error. No condition. -/
import Derived.Test.YtoeichkblclfaaaArg
namespace Go.Proofs.Ytoeichkblclfaaa.lawPlans
open Go.ChangeShapes Go.WideShapes Go.ChangeAt Go.RowKit Go.Deep Go.Joins
set_option linter.unusedVariables false
set_option maxRecDepth 20000
theorem greedy_len {c : Nat} : ∀ (m : List (List Int)) (S : Nat), (greedy c m S).length ≤ m.length
  | [], _ => Nat.le_refl _
  | row :: rest, S => by
    unfold greedy
    split
    · rename_i k _; have := greedy_len (c := c) rest (S + 2 ^ k); simp only [List.length_cons]; omega
    · simp
theorem plan_len (m : Mp) (l : List Inc) (nodes : List Int) : (planF m l nodes).1.length ≤ 8 := by
  unfold planF
  split
  · simp
  · rename_i h
    have hk : kOf l nodes ≤ 8 := by unfold kOf; omega
    split
    · have := greedy_len (c := nodes.length) (matR m (runsF l nodes) nodes) 0
      have h2 : (matR m (runsF l nodes) nodes).length = kOf l nodes := by unfold matR matF; rw [List.length_map, runs_len]
      dsimp only; omega
    · dsimp only; rw [fillT_len]; exact hk

/-! skiarea/skiarealaw57.IncidentPlans -/
def lawIr : IFn := ⟨48, [.tmp 6],
  (.seq (.ops [
    ⟨(some 3), .box, [.tmp 0], none⟩,
    ⟨(some 6), .mov, [.const (.bool false)], none⟩] false)
  (.seq (.seq (.ops [
    ⟨(some 11), .call 9, [], none⟩,
    ⟨(some 12), .not, [.tmp 11], none⟩] false)
  (.cond (.tmp 12)
    (.seq (.ops [
      ⟨(some 6), .mov, [.const (.bool false)], none⟩] false)
    .ret)
    .skip))
  (.seq (.seq (.ops [
    ⟨(some 13), .mov, [.tmp 1], none⟩,
    ⟨(some 14), .call 12, [.tmp 13], none⟩,
    ⟨(some 15), .not, [.tmp 14], none⟩,
    ⟨(some 16), .mov, [.tmp 15], none⟩,
    ⟨(some 17), .mov, [.tmp 2], (some (16, false))⟩,
    ⟨(some 18), .len, [.tmp 17], (some (16, false))⟩,
    ⟨(some 19), .cmp .gtr, [.tmp 18, .const (.int .i64 20)], (some (16, false))⟩,
    ⟨(some 20), .pick, [.tmp 16, .const (.bool true), .tmp 19], none⟩,
    ⟨(some 21), .mov, [.tmp 20], none⟩,
    ⟨(some 22), .load 4 true, [.tmp 3], (some (21, false))⟩,
    ⟨(some 23), .call 20, [.tmp 22], (some (21, false))⟩,
    ⟨(some 24), .cmp .neq, [.tmp 23, .const (.int .i64 0)], (some (21, false))⟩,
    ⟨(some 25), .pick, [.tmp 21, .const (.bool true), .tmp 24], none⟩] false)
  (.cond (.tmp 25)
    (.seq (.ops [
      ⟨(some 6), .mov, [.const (.bool true)], none⟩] false)
    .ret)
    .skip))
  (.seq (.ops [
    ⟨(some 27), .load 4 true, [.tmp 3], none⟩,
    ⟨(some 28), .mov, [.tmp 1], none⟩,
    ⟨(some 29), .mov, [.tmp 2], none⟩,
    ⟨(some 30), .call 21, [.tmp 27, .tmp 28, .tmp 29], none⟩,
    ⟨(some 26), .mov, [.tmp 30], none⟩,
    ⟨(some 31), .extract 0, [.tmp 26], none⟩,
    ⟨(some 32), .extract 1, [.tmp 26], none⟩,
    ⟨(some 7), .mov, [.tmp 31], none⟩,
    ⟨(some 8), .mov, [.tmp 32], none⟩] false)
  (.seq (.ops [
    ⟨(some 34), .load 4 true, [.tmp 3], none⟩,
    ⟨(some 35), .mov, [.tmp 1], none⟩,
    ⟨(some 36), .mov, [.tmp 2], none⟩,
    ⟨(some 37), .call 22, [.tmp 34, .tmp 35, .tmp 36], none⟩,
    ⟨(some 33), .mov, [.tmp 37], none⟩,
    ⟨(some 38), .extract 0, [.tmp 33], none⟩,
    ⟨(some 39), .extract 1, [.tmp 33], none⟩,
    ⟨(some 9), .mov, [.tmp 38], none⟩,
    ⟨(some 10), .mov, [.tmp 39], none⟩] false)
  (.seq (.ops [
    ⟨(some 40), .mov, [.tmp 7], none⟩,
    ⟨(some 41), .mov, [.tmp 9], none⟩,
    ⟨(some 42), .call 17, [.tmp 40, .tmp 41], none⟩,
    ⟨(some 43), .mov, [.tmp 42], none⟩,
    ⟨(some 44), .mov, [.tmp 8], (some (43, true))⟩,
    ⟨(some 45), .mov, [.tmp 10], (some (43, true))⟩,
    ⟨(some 46), .cmp .eql, [.tmp 44, .tmp 45], (some (43, true))⟩,
    ⟨(some 47), .pick, [.tmp 43, .tmp 46, .const (.bool false)], none⟩,
    ⟨(some 6), .mov, [.tmp 47], none⟩] false)
  .ret))))))⟩
theorem lawLow : lowF Try.prog {} Try.f6 = some lawIr := by kernel_rfl
def lawS : Spec := spec (Mp × List Inc × List Int) (fun p => [aM p.1, L 6 (p.2.1.map encI), L 1 (p.2.2.map e1)]) (fun p => okM p.1 ∧ p.2.1.length ≤ 9223372036854775807) (fun _ => B true)
set_option maxHeartbeats 1000000 in
theorem lawV : fnV Try.prog lawIr lawS := by
  intro ⟨(m : Mp), (l : List Inc), (nodes : List Int)⟩ hx
  obtain ⟨hm0, hl0⟩ : okM m ∧ l.length ≤ 9223372036854775807 := hx
  have hln : (nodes.map e1).length = nodes.length := List.length_map ..
  show vc _ _ _ _ ⟨argEnv 0 [aM m, L 6 (l.map encI), L 1 (nodes.map e1)], [], 0⟩
  by_cases h0 : rightI l = 0
  · by_cases h20 : 20 < nodes.length
    · repeat' ((conv => whnf); first | (refine ⟨fun h => ?_, fun h => ?_⟩ <;> try (exfalso; first | omega | exact absurd h (by decide) | exact h rfl | exact absurd (show true = false from h) (by decide) | exact absurd (show false = true from h) (by decide))) | (refine ⟨_, alive_h, (), trivial, leVs_of_eq rfl, .inl rfl, rfl, ?_⟩; show norm (B true) _) | (refine ⟨_, lright_h, l, hl0, leVs_of_eq rfl, .inl rfl, rfl, ?_⟩; show norm (B (decide (rightI l = 0))) _; rw [decide_eq_true h0]) | exact ⟨[], rfl, trivial, rfl⟩ | fail)
    obtain ⟨e, hE⟩ : ∃ e, rightM m = e := ⟨_, rfl⟩
    by_cases he : e = 0
    · have hm : MapOk m := mapOk_of (hE.trans he)
      have hlen := len_of h0
      have hpre : MapOk m ∧ IdsN l ∧ l.length ≤ 1000000 := ⟨hm, ids_of h0, by omega⟩
      obtain ⟨⟨a, f⟩, hP⟩ : ∃ r, planF m l nodes = r := ⟨_, rfl⟩
      have hal : a.length ≤ 9223372036854775807 := by have h1 := plan_len m l nodes; rw [hP] at h1; dsimp only at h1; omega
      repeat' ((conv => whnf); first | (refine ⟨fun h => ?_, fun h => ?_⟩ <;> try (exfalso; first | omega | exact absurd h (by decide) | exact h rfl | exact absurd (show true = false from h) (by decide) | exact absurd (show false = true from h) (by decide))) | (refine ⟨_, alive_h, (), trivial, leVs_of_eq rfl, .inl rfl, rfl, ?_⟩; show norm (B true) _) | (refine ⟨_, lright_h, l, hl0, leVs_of_eq rfl, .inl rfl, rfl, ?_⟩; show norm (B (decide (rightI l = 0))) _; rw [decide_eq_true h0]) | (refine ⟨_, rrightM_h, m, hm0, leVs_of_eq rfl, .inl rfl, rfl, ?_⟩; show norm (I (rightM m)) _; rw [hE]) | (refine ⟨_, plan_h, (m, l, nodes), hpre, leVs_of_eq rfl, .inl rfl, rfl, ?_⟩; show norm (.tup [L 1 ((planF m l nodes).1.map e1), I (planF m l nodes).2]) _; rw [hP]) | (refine ⟨_, rplan_h, (m, l, nodes), hpre, leVs_of_eq rfl, .inl rfl, rfl, ?_⟩; show norm (.tup [L 1 ((planF m l nodes).1.map e1), I (planF m l nodes).2]) _; rw [hP]) | (refine ⟨_, lsame_h, (a, a), hal, leVs_of_eq rfl, .inl rfl, rfl, ?_⟩; show norm (B (decide (a = a))) _; rw [decide_eq_true rfl]) | exact ⟨[], rfl, trivial, rfl⟩ | fail)
    · repeat' ((conv => whnf); first | (refine ⟨fun h => ?_, fun h => ?_⟩ <;> try (exfalso; first | omega | exact absurd h (by decide) | exact h rfl | exact absurd (show true = false from h) (by decide) | exact absurd (show false = true from h) (by decide))) | (refine ⟨_, alive_h, (), trivial, leVs_of_eq rfl, .inl rfl, rfl, ?_⟩; show norm (B true) _) | (refine ⟨_, lright_h, l, hl0, leVs_of_eq rfl, .inl rfl, rfl, ?_⟩; show norm (B (decide (rightI l = 0))) _; rw [decide_eq_true h0]) | (refine ⟨_, rrightM_h, m, hm0, leVs_of_eq rfl, .inl rfl, rfl, ?_⟩; show norm (I (rightM m)) _; rw [hE]) | exact ⟨[], rfl, trivial, rfl⟩ | fail)
  · repeat' ((conv => whnf); first | (refine ⟨fun h => ?_, fun h => ?_⟩ <;> try (exfalso; first | omega | exact absurd h (by decide) | exact h rfl | exact absurd (show true = false from h) (by decide) | exact absurd (show false = true from h) (by decide))) | (refine ⟨_, alive_h, (), trivial, leVs_of_eq rfl, .inl rfl, rfl, ?_⟩; show norm (B true) _) | (refine ⟨_, lright_h, l, hl0, leVs_of_eq rfl, .inl rfl, rfl, ?_⟩; show norm (B (decide (rightI l = 0))) _; rw [decide_eq_false h0]) | exact ⟨[], rfl, trivial, rfl⟩ | fail)
theorem law_h : Holds Try.prog 6 lawS := holds_of mix Try.func6 lawLow (fun _ => rfl) lawV

/-! ### THE ROW's STEP -/
theorem own : ownKnob Try.prog.godebug = none := by kernel_rfl
theorem laidOut : laidOutB Try.prog = true := by kernel_rfl
set_option maxRecDepth 100000 in
theorem lifted (os : Os) (started : os.Started) (H : Type) (enc : TypeId × Value → H) :
    ReturnsInHanded {} Try.checked os 6 .any (Rows.incidentPlansSpec.pre6 enc Try.prog Try.f6 Rows.incidentPlansRow.domain false) (Rows.incidentPlansSpec.post enc Try.prog Try.f6 false true false false) := by
  refine returnsInHanded_of_change (C := Try.checked) own started (by kernel_rfl) Try.func6
    (ChangeSpec.witness6 (enc := enc) (C := Try.checked) false ⟨#[], #[.agg #[.slice none 0 0, .slice none 0 0, .slice none 0 0, .slice none 0 0], .slice none 0 0, .slice none 0 0], []⟩ 8 (by kernel_rfl) (by kernel_rfl) (by kernel_rfl) (by kernel_rfl)) ?_
  intro W base args ds gs before hval0 hW hcnd _
  have hval : ∀ (j : Nat) t v, Try.f6.params[j]? = some t → args[j]? = some v → Value.okWide Try.prog W .any base t v := hval0
  have hW' := hW
  obtain ⟨p, q, hA0, hV, rfl, hfz, hnd⟩ := hW
  have hA : DataW.TrodAll enc Try.prog W 0 (fun _ => true) true Try.f6.params.toList args.toList ds p := hA0
  rw [Try.params6] at hA hval
  obtain ⟨v0, vs0, d0, ds0, p0, q0, hargs, rfl, rfl, h0, r0⟩ := trodAll_cons hA
  obtain ⟨v1, vs1, d1, ds1, p1, q1, rfl, rfl, rfl, h1, r1⟩ := trodAll_cons r0
  obtain ⟨v2, vs2, d2, ds2, p2, q2, rfl, rfl, rfl, h2, r2⟩ := trodAll_cons r1
  obtain ⟨rfl, rfl, rfl⟩ := trodAll_nil r2
  obtain rfl : args = #[v0, v1, v2] := by cases args; simp_all
  obtain ⟨rfl, rfl⟩ := trodVars_none hV
  have lt0 : ∀ x ∈ p0, x.block < W.heap.size := by obtain ⟨m, hm⟩ := h0; exact DataW.trod_lt m _ _ _ hm
  obtain ⟨z0, w0, x0⟩ := openM (hval 0 43 v0 rfl rfl) h0
  have lt1 : ∀ x ∈ p1, x.block < W.heap.size := by obtain ⟨m, hm⟩ := h1; exact DataW.trod_lt m _ _ _ hm
  obtain ⟨z1, w1, x1⟩ := openLI (hval 1 22 v1 rfl rfl) h1
  have lt2 : ∀ x ∈ p2, x.block < W.heap.size := by obtain ⟨m, hm⟩ := h2; exact DataW.trod_lt m _ _ _ hm
  obtain ⟨z2, w2, x2⟩ := openIs (hval 2 33 v2 rfl rfl) h2
  clear hA0 hval0
  refine Calls.mono (law_calls law_h (z0, z1, z2) ⟨w0, w1.1⟩ rfl (vs := [v0, v1, v2]) (replist_mk x0 (replist_mk x1 (replist_mk x2 replist_mk0)))) fun e W' ⟨he, bel⟩ => ?_
  subst he
  exact ⟨_, rfl, _, _, _, [], _, [], hW', trodAll_mk1 (shut_bool Try.underlying4 _), (trodAll_cons_mk (Below.trod laidOut (by kernel_rfl) (of_decide_eq_true (by kernel_rfl)) h0 bel lt0) (trodAll_cons_mk (Below.trod laidOut (by kernel_rfl) (of_decide_eq_true (by kernel_rfl)) h1 bel lt1) (trodAll_cons_mk (Below.trod laidOut (by kernel_rfl) (of_decide_eq_true (by kernel_rfl)) h2 bel lt2) trodAll_mk0))), rfl, bel.frame _, fun h => by cases h⟩

theorem over : Rows.incidentPlansRow.holds Try.pinned (OpenSpec.ofChange Rows.incidentPlansSpec) :=
  OpenClaim.holds_of_wide 6 Try.f6 rfl rfl rfl rfl rfl rfl rfl ⟨rfl, rfl, rfl, rfl, rfl⟩ rfl rfl rfl rfl rfl (by kernel_rfl) Try.func6 (by kernel_rfl)
    (of_decide_eq_true (by kernel_rfl)) (by unfold Func.isWrapper; first | (rw [if_pos (by decide +kernel)]; kernel_rfl) | (rw [if_neg (by decide +kernel)]; exact ⟨rfl, rfl⟩))
    (fun os started H enc _ => lifted os started H enc)

theorem proved : Rows.IncidentPlansSaid := over
end Go.Proofs.Ytoeichkblclfaaa.lawPlans
