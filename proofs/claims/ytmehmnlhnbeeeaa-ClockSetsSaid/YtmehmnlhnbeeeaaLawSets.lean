/- ClockSets: Merge, Cover and Length return the specified results. No condition. -/
import Derived.Test.YtmehmnlhnbeeeaaArg
namespace Go.Proofs.Ytmehmnlhnbeeeaa.lawSets
open Go.ChangeShapes Go.WideShapes Go.ChangeAt Go.RowKit Go.Deep Go.Joins
set_option linter.unusedVariables false

/-! skiarea/skiarealaw02.ClockSets -/
def lawIr : IFn := ⟨33, [.tmp 4],
  (.seq (.ops [
    ⟨(some 4), .mov, [.const (.bool false)], none⟩] false)
  (.seq (.seq (.ops [
    ⟨(some 5), .call 11, [], none⟩,
    ⟨(some 6), .not, [.tmp 5], none⟩] false)
  (.cond (.tmp 6)
    (.seq (.ops [
      ⟨(some 4), .mov, [.const (.bool false)], none⟩] false)
    .ret)
    .skip))
  (.seq (.ops [
    ⟨(some 7), .mov, [.tmp 0], none⟩,
    ⟨(some 8), .call 24, [.tmp 7], none⟩,
    ⟨(some 9), .not, [.tmp 8], none⟩,
    ⟨(some 10), .mov, [.tmp 9], none⟩,
    ⟨(some 11), .mov, [.tmp 0], (some (10, false))⟩,
    ⟨(some 12), .call 29, [.tmp 11], (some (10, false))⟩,
    ⟨(some 13), .mov, [.tmp 0], (some (10, false))⟩,
    ⟨(some 14), .call 30, [.tmp 13], (some (10, false))⟩,
    ⟨(some 15), .call 25, [.tmp 12, .tmp 14], (some (10, false))⟩,
    ⟨(some 16), .mov, [.tmp 15], (some (10, false))⟩,
    ⟨(some 17), .mov, [.tmp 0], (some (16, true))⟩,
    ⟨(some 18), .mov, [.tmp 1], (some (16, true))⟩,
    ⟨(some 19), .call 31, [.tmp 17, .tmp 18], (some (16, true))⟩,
    ⟨(some 20), .mov, [.tmp 0], (some (16, true))⟩,
    ⟨(some 21), .mov, [.tmp 1], (some (16, true))⟩,
    ⟨(some 22), .call 32, [.tmp 20, .tmp 21], (some (16, true))⟩,
    ⟨(some 23), .eqb false, [.tmp 19, .tmp 22], (some (16, true))⟩,
    ⟨(some 24), .pick, [.tmp 16, .tmp 23, .const (.bool false)], (some (10, false))⟩,
    ⟨(some 25), .mov, [.tmp 24], (some (10, false))⟩,
    ⟨(some 26), .mov, [.tmp 0], (some (25, true))⟩,
    ⟨(some 27), .call 28, [.tmp 26], (some (25, true))⟩,
    ⟨(some 28), .mov, [.tmp 0], (some (25, true))⟩,
    ⟨(some 29), .call 33, [.tmp 28], (some (25, true))⟩,
    ⟨(some 30), .cmp .eql, [.tmp 27, .tmp 29], (some (25, true))⟩,
    ⟨(some 31), .pick, [.tmp 25, .tmp 30, .const (.bool false)], (some (10, false))⟩,
    ⟨(some 32), .pick, [.tmp 10, .const (.bool true), .tmp 31], none⟩,
    ⟨(some 4), .mov, [.tmp 32], none⟩] false)
  .ret)))⟩
theorem lawLow : lowF Try.prog {} Try.f9 = some lawIr := by kernel_rfl
def lawS : Spec := spec (List Ivl × Int) (fun p => [L 2 (p.1.map encV), I p.2]) (fun _ => True) (fun _ => B true)
theorem lawV : fnV Try.prog lawIr lawS := by
  intro ⟨(l : List Ivl), (t : Int)⟩ _
  show vc _ _ _ ⟨argEnv 0 [L 2 (l.map encV), I t], [], 0⟩
  by_cases hl : l.length ≤ 60
  · have p1 : l.length ≤ 1000000 := by omega
    have p2 : l.length ≤ 9223372036854775807 := by omega
    have p3 : (mergeF l).length ≤ 9223372036854775807 := by have := merge_len l; omega
    cases hb1 : decide (cov l t)
    all_goals repeat' ((conv => whnf); first | (refine ⟨fun h => ?_, fun h => ?_⟩ <;> try (exfalso; first | omega | exact absurd h (by decide) | exact h rfl | exact absurd (h.symm.trans hb1) (by decide))) | (refine ⟨_, alive_h, (), trivial, leVs_of_eq rfl, .inl rfl, rfl, ?_⟩; show norm (B true) _) | (refine ⟨_, few_h, l, trivial, leVs_of_eq rfl, .inl rfl, rfl, ?_⟩; show norm (B (decide (l.length ≤ 60))) _; rw [decide_eq_true hl]) | (refine ⟨_, merge_h, l, p1, leVs_of_eq rfl, .inl rfl, rfl, ?_⟩; show norm (L 2 ((mergeF l).map encV)) _) | (refine ⟨_, rmerge_h, l, p1, leVs_of_eq rfl, .inl rfl, rfl, ?_⟩; show norm (L 2 ((mergeF l).map encV)) _) | (refine ⟨_, same_h, (mergeF l, mergeF l), p3, leVs_of_eq rfl, .inl rfl, rfl, ?_⟩; show norm (B (decide (_ = _))) _; rw [decide_eq_true rfl]) | (refine ⟨_, cover_h, (l, t), p2, leVs_of_eq rfl, .inl rfl, rfl, ?_⟩; show norm (B (decide (cov l t))) _) | (refine ⟨_, rcover_h, (l, t), p2, leVs_of_eq rfl, .inl rfl, rfl, ?_⟩; show norm (B (decide (cov l t))) _) | (refine ⟨_, length_h, l, p1, leVs_of_eq rfl, .inl rfl, rfl, ?_⟩; show norm (I (lenF l)) _) | (refine ⟨_, rlength_h, l, p1, leVs_of_eq rfl, .inl rfl, rfl, ?_⟩; show norm (I (lenF l)) _) | exact ⟨[], rfl, trivial, rfl⟩ | fail)
  · repeat' ((conv => whnf); first | (refine ⟨fun h => ?_, fun h => ?_⟩ <;> try (exfalso; first | omega | exact absurd h (by decide) | exact h rfl)) | (refine ⟨_, alive_h, (), trivial, leVs_of_eq rfl, .inl rfl, rfl, ?_⟩; show norm (B true) _) | (refine ⟨_, few_h, l, trivial, leVs_of_eq rfl, .inl rfl, rfl, ?_⟩; show norm (B (decide (l.length ≤ 60))) _; rw [decide_eq_false hl]) | exact ⟨[], rfl, trivial, rfl⟩ | fail)
theorem law_h : Holds Try.prog 9 lawS := holds_of mix Try.func9 lawLow (fun _ => rfl) lawV

/-! ### THE ROW's STEP -/
theorem own : ownKnob Try.prog.godebug = none := by kernel_rfl
theorem laidOut : laidOutB Try.prog = true := by kernel_rfl
set_option maxRecDepth 100000 in
theorem lifted (os : Os) (started : os.Started) (H : Type) (enc : TypeId × Value → H) :
    ReturnsInHanded {} Try.checked os 9 .any (Rows.clockSetsSpec.pre6 enc Try.prog Try.f9 Rows.clockSetsRow.domain false) (Rows.clockSetsSpec.post enc Try.prog Try.f9 false true false false) := by
  refine returnsInHanded_of_change (C := Try.checked) own started (by kernel_rfl) Try.func9
    (ChangeSpec.witness6 (enc := enc) (C := Try.checked) false ⟨#[], #[.slice none 0 0, .int .i64 0], []⟩ 8 (by kernel_rfl) (by kernel_rfl) (by kernel_rfl) (by kernel_rfl)) ?_
  intro W base args ds gs before hval0 hW hcnd _
  have hval : ∀ (j : Nat) t v, Try.f9.params[j]? = some t → args[j]? = some v → Value.okWide Try.prog W .any base t v := hval0
  have hW' := hW
  obtain ⟨p, q, hA0, hV, rfl, hfz, hnd⟩ := hW
  have hA : DataW.TrodAll enc Try.prog W 0 (fun _ => true) true Try.f9.params.toList args.toList ds p := hA0
  rw [Try.params9] at hA hval
  obtain ⟨v0, vs0, d0, ds0, p0, q0, hargs, rfl, rfl, h0, r0⟩ := trodAll_cons hA
  obtain ⟨v1, vs1, d1, ds1, p1, q1, rfl, rfl, rfl, h1, r1⟩ := trodAll_cons r0
  obtain ⟨rfl, rfl, rfl⟩ := trodAll_nil r1
  obtain rfl : args = #[v0, v1] := by cases args; simp_all
  obtain ⟨rfl, rfl⟩ := trodVars_none hV
  have lt0 : ∀ x ∈ p0, x.block < W.heap.size := by obtain ⟨m, hm⟩ := h0; exact DataW.trod_lt m _ _ _ hm
  obtain ⟨z0, w0, x0⟩ := openIvls (hval 0 30 v0 rfl rfl) h0
  have lt1 : ∀ x ∈ p1, x.block < W.heap.size := by obtain ⟨m, hm⟩ := h1; exact DataW.trod_lt m _ _ _ hm
  obtain ⟨z1, w1, x1⟩ := open_i Try.underlying3 (hval 1 3 v1 rfl rfl) h1
  clear hA0 hval0
  refine Calls.mono (law_calls law_h (z0, z1) trivial rfl (vs := [v0, v1]) (replist_mk x0 (replist_mk x1 replist_mk0))) fun e W' ⟨he, bel⟩ => ?_
  subst he
  exact ⟨_, rfl, _, _, _, [], _, [], hW', trodAll_mk1 (shut_bool Try.underlying4 _), (trodAll_cons_mk (Below.trod laidOut (by kernel_rfl) (of_decide_eq_true (by kernel_rfl)) h0 bel lt0) (trodAll_cons_mk (Below.trod laidOut (by kernel_rfl) (of_decide_eq_true (by kernel_rfl)) h1 bel lt1) trodAll_mk0)), rfl, bel.frame _, fun h => by cases h⟩

theorem over : Rows.clockSetsRow.holds Try.pinned (OpenSpec.ofChange Rows.clockSetsSpec) :=
  OpenClaim.holds_of_wide 9 Try.f9 rfl rfl rfl rfl rfl rfl rfl ⟨rfl, rfl, rfl, rfl, rfl⟩ rfl rfl rfl rfl rfl (by kernel_rfl) Try.func9 (by kernel_rfl)
    (of_decide_eq_true (by kernel_rfl)) (by unfold Func.isWrapper; first | (rw [if_pos (by decide +kernel)]; kernel_rfl) | (rw [if_neg (by decide +kernel)]; exact ⟨rfl, rfl⟩))
    (fun os started H enc _ => lifted os started H enc)

theorem proved : Rows.ClockSetsSaid := over
end Go.Proofs.Ytmehmnlhnbeeeaa.lawSets
