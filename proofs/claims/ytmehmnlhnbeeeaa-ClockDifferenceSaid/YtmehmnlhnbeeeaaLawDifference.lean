/- ClockDifference: Minus returns the specified intervals. No condition. -/
import Derived.Test.YtmehmnlhnbeeeaaArg
namespace Go.Proofs.Ytmehmnlhnbeeeaa.lawDifference
open Go.ChangeShapes Go.WideShapes Go.ChangeAt Go.RowKit Go.Deep Go.Joins
set_option linter.unusedVariables false

/-! skiarea/skiarealaw02.ClockDifference -/
def lawIr : IFn := ⟨24, [.tmp 4],
  (.seq (.ops [
    ⟨(some 4), .mov, [.const (.bool false)], none⟩] false)
  (.seq (.seq (.ops [
    ⟨(some 5), .call 11, [], none⟩,
    ⟨(some 6), .not, [.tmp 5], none⟩] false)
  (.cond (.tmp 6)
    (.seq (.ops [
      ⟨(some 4), .mov, [.const (.bool false)], none⟩] false)
    .ret)
    .skip))
  (.seq (.ops [
    ⟨(some 7), .mov, [.tmp 0], none⟩,
    ⟨(some 8), .call 24, [.tmp 7], none⟩,
    ⟨(some 9), .not, [.tmp 8], none⟩,
    ⟨(some 10), .mov, [.tmp 9], none⟩,
    ⟨(some 11), .mov, [.tmp 1], (some (10, false))⟩,
    ⟨(some 12), .call 24, [.tmp 11], (some (10, false))⟩,
    ⟨(some 13), .not, [.tmp 12], (some (10, false))⟩,
    ⟨(some 14), .pick, [.tmp 10, .const (.bool true), .tmp 13], none⟩,
    ⟨(some 15), .mov, [.tmp 14], none⟩,
    ⟨(some 16), .mov, [.tmp 0], (some (15, false))⟩,
    ⟨(some 17), .mov, [.tmp 1], (some (15, false))⟩,
    ⟨(some 18), .call 26, [.tmp 16, .tmp 17], (some (15, false))⟩,
    ⟨(some 19), .mov, [.tmp 0], (some (15, false))⟩,
    ⟨(some 20), .mov, [.tmp 1], (some (15, false))⟩,
    ⟨(some 21), .call 27, [.tmp 19, .tmp 20], (some (15, false))⟩,
    ⟨(some 22), .call 25, [.tmp 18, .tmp 21], (some (15, false))⟩,
    ⟨(some 23), .pick, [.tmp 15, .const (.bool true), .tmp 22], none⟩,
    ⟨(some 4), .mov, [.tmp 23], none⟩] false)
  .ret)))⟩
theorem lawLow : lowF Try.prog {} Try.f6 = some lawIr := by kernel_rfl
def lawS : Spec := spec (List Ivl × List Ivl) (fun p => [L 2 (p.1.map encV), L 2 (p.2.map encV)]) (fun _ => True) (fun _ => B true)
theorem lawV : fnV Try.prog lawIr lawS := by
  intro ⟨(a : List Ivl), (b : List Ivl)⟩ _
  show vc _ _ _ ⟨argEnv 0 [L 2 (a.map encV), L 2 (b.map encV)], [], 0⟩
  by_cases ha : a.length ≤ 60
  · by_cases hb : b.length ≤ 60
    · have p1 : a.length ≤ 1000000 ∧ b.length ≤ 1000000 := ⟨by omega, by omega⟩
      have p3 : (minusF a b).length ≤ 9223372036854775807 := by have := (minus_spec a b).1.sum; omega
      repeat' ((conv => whnf); first | (refine ⟨fun h => ?_, fun h => ?_⟩ <;> try (exfalso; first | omega | exact absurd h (by decide) | exact h rfl)) | (refine ⟨_, alive_h, (), trivial, leVs_of_eq rfl, .inl rfl, rfl, ?_⟩; show norm (B true) _) | (refine ⟨_, few_h, a, trivial, leVs_of_eq rfl, .inl rfl, rfl, ?_⟩; show norm (B (decide (a.length ≤ 60))) _; rw [decide_eq_true ha]) | (refine ⟨_, few_h, b, trivial, leVs_of_eq rfl, .inl rfl, rfl, ?_⟩; show norm (B (decide (b.length ≤ 60))) _; rw [decide_eq_true hb]) | (refine ⟨_, minus_h, (a, b), p1, leVs_of_eq rfl, .inl rfl, rfl, ?_⟩; show norm (L 2 ((minusF a b).map encV)) _) | (refine ⟨_, rminus_h, (a, b), p1, leVs_of_eq rfl, .inl rfl, rfl, ?_⟩; show norm (L 2 ((minusF a b).map encV)) _) | (refine ⟨_, same_h, (minusF a b, minusF a b), p3, leVs_of_eq rfl, .inl rfl, rfl, ?_⟩; show norm (B (decide (_ = _))) _; rw [decide_eq_true rfl]) | exact ⟨[], rfl, trivial, rfl⟩ | fail)
    · repeat' ((conv => whnf); first | (refine ⟨fun h => ?_, fun h => ?_⟩ <;> try (exfalso; first | omega | exact absurd h (by decide) | exact h rfl)) | (refine ⟨_, alive_h, (), trivial, leVs_of_eq rfl, .inl rfl, rfl, ?_⟩; show norm (B true) _) | (refine ⟨_, few_h, a, trivial, leVs_of_eq rfl, .inl rfl, rfl, ?_⟩; show norm (B (decide (a.length ≤ 60))) _; rw [decide_eq_true ha]) | (refine ⟨_, few_h, b, trivial, leVs_of_eq rfl, .inl rfl, rfl, ?_⟩; show norm (B (decide (b.length ≤ 60))) _; rw [decide_eq_false hb]) | exact ⟨[], rfl, trivial, rfl⟩ | fail)
  · repeat' ((conv => whnf); first | (refine ⟨fun h => ?_, fun h => ?_⟩ <;> try (exfalso; first | omega | exact absurd h (by decide) | exact h rfl)) | (refine ⟨_, alive_h, (), trivial, leVs_of_eq rfl, .inl rfl, rfl, ?_⟩; show norm (B true) _) | (refine ⟨_, few_h, a, trivial, leVs_of_eq rfl, .inl rfl, rfl, ?_⟩; show norm (B (decide (a.length ≤ 60))) _; rw [decide_eq_false ha]) | exact ⟨[], rfl, trivial, rfl⟩ | fail)
theorem law_h : Holds Try.prog 6 lawS := holds_of mix Try.func6 lawLow (fun _ => rfl) lawV

/-! ### THE ROW's STEP -/
theorem own : ownKnob Try.prog.godebug = none := by kernel_rfl
theorem laidOut : laidOutB Try.prog = true := by kernel_rfl
set_option maxRecDepth 100000 in
theorem lifted (os : Os) (started : os.Started) (H : Type) (enc : TypeId × Value → H) :
    ReturnsInHanded {} Try.checked os 6 .any (Rows.clockDifferenceSpec.pre6 enc Try.prog Try.f6 Rows.clockDifferenceRow.domain false) (Rows.clockDifferenceSpec.post enc Try.prog Try.f6 false true false false) := by
  refine returnsInHanded_of_change (C := Try.checked) own started (by kernel_rfl) Try.func6
    (ChangeSpec.witness6 (enc := enc) (C := Try.checked) false ⟨#[], #[.slice none 0 0, .slice none 0 0], []⟩ 8 (by kernel_rfl) (by kernel_rfl) (by kernel_rfl) (by kernel_rfl)) ?_
  intro W base args ds gs before hval0 hW hcnd _
  have hval : ∀ (j : Nat) t v, Try.f6.params[j]? = some t → args[j]? = some v → Value.okWide Try.prog W .any base t v := hval0
  have hW' := hW
  obtain ⟨p, q, hA0, hV, rfl, hfz, hnd⟩ := hW
  have hA : DataW.TrodAll enc Try.prog W 0 (fun _ => true) true Try.f6.params.toList args.toList ds p := hA0
  rw [Try.params6] at hA hval
  obtain ⟨v0, vs0, d0, ds0, p0, q0, hargs, rfl, rfl, h0, r0⟩ := trodAll_cons hA
  obtain ⟨v1, vs1, d1, ds1, p1, q1, rfl, rfl, rfl, h1, r1⟩ := trodAll_cons r0
  obtain ⟨rfl, rfl, rfl⟩ := trodAll_nil r1
  obtain rfl : args = #[v0, v1] := by cases args; simp_all
  obtain ⟨rfl, rfl⟩ := trodVars_none hV
  have lt0 : ∀ x ∈ p0, x.block < W.heap.size := by obtain ⟨m, hm⟩ := h0; exact DataW.trod_lt m _ _ _ hm
  obtain ⟨z0, w0, x0⟩ := openIvls (hval 0 30 v0 rfl rfl) h0
  have lt1 : ∀ x ∈ p1, x.block < W.heap.size := by obtain ⟨m, hm⟩ := h1; exact DataW.trod_lt m _ _ _ hm
  obtain ⟨z1, w1, x1⟩ := openIvls (hval 1 30 v1 rfl rfl) h1
  clear hA0 hval0
  refine Calls.mono (law_calls law_h (z0, z1) trivial rfl (vs := [v0, v1]) (replist_mk x0 (replist_mk x1 replist_mk0))) fun e W' ⟨he, bel⟩ => ?_
  subst he
  exact ⟨_, rfl, _, _, _, [], _, [], hW', trodAll_mk1 (shut_bool Try.underlying4 _), (trodAll_cons_mk (Below.trod laidOut (by kernel_rfl) (of_decide_eq_true (by kernel_rfl)) h0 bel lt0) (trodAll_cons_mk (Below.trod laidOut (by kernel_rfl) (of_decide_eq_true (by kernel_rfl)) h1 bel lt1) trodAll_mk0)), rfl, bel.frame _, fun h => by cases h⟩

theorem over : Rows.clockDifferenceRow.holds Try.pinned (OpenSpec.ofChange Rows.clockDifferenceSpec) :=
  OpenClaim.holds_of_wide 6 Try.f6 rfl rfl rfl rfl rfl rfl rfl ⟨rfl, rfl, rfl, rfl, rfl⟩ rfl rfl rfl rfl rfl (by kernel_rfl) Try.func6 (by kernel_rfl)
    (of_decide_eq_true (by kernel_rfl)) (by unfold Func.isWrapper; first | (rw [if_pos (by decide +kernel)]; kernel_rfl) | (rw [if_neg (by decide +kernel)]; exact ⟨rfl, rfl⟩))
    (fun os started H enc _ => lifted os started H enc)

theorem proved : Rows.ClockDifferenceSaid := over
end Go.Proofs.Ytmehmnlhnbeeeaa.lawDifference
