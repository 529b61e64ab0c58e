/- RidesMerges: Merge returns the specified store or error. No condition. -/
import Derived.Test.YtfghmpfiemmbgaaG2
namespace Go.Proofs.Ytfghmpfiemmbgaa.lawMerges
open Go.ChangeShapes Go.WideShapes Go.ChangeAt Go.RowKit Go.Deep Go.Joins
set_option linter.unusedVariables false

/-! skiarea/skiarealaw31.RidesMerges -/
def lawIr : IFn := ⟨39, [.tmp 4],
  (.seq (.ops [
    ⟨(some 4), .mov, [.const (.bool false)], none⟩] false)
  (.seq (.seq (.ops [
    ⟨(some 9), .call 11, [], none⟩,
    ⟨(some 10), .not, [.tmp 9], none⟩] false)
  (.cond (.tmp 10)
    (.seq (.ops [
      ⟨(some 4), .mov, [.const (.bool false)], none⟩] false)
    .ret)
    .skip))
  (.seq (.seq (.ops [
    ⟨(some 11), .mov, [.tmp 0], none⟩,
    ⟨(some 12), .call 14, [.tmp 11], none⟩,
    ⟨(some 13), .not, [.tmp 12], none⟩,
    ⟨(some 14), .mov, [.tmp 13], none⟩,
    ⟨(some 15), .mov, [.tmp 1], (some (14, false))⟩,
    ⟨(some 16), .call 14, [.tmp 15], (some (14, false))⟩,
    ⟨(some 17), .not, [.tmp 16], (some (14, false))⟩,
    ⟨(some 18), .pick, [.tmp 14, .const (.bool true), .tmp 17], none⟩] false)
  (.cond (.tmp 18)
    (.seq (.ops [
      ⟨(some 4), .mov, [.const (.bool true)], none⟩] false)
    .ret)
    .skip))
  (.seq (.ops [
    ⟨(some 20), .mov, [.tmp 0], none⟩,
    ⟨(some 21), .mov, [.tmp 1], none⟩,
    ⟨(some 22), .call 18, [.tmp 20, .tmp 21], none⟩,
    ⟨(some 19), .mov, [.tmp 22], none⟩,
    ⟨(some 23), .extract 0, [.tmp 19], none⟩,
    ⟨(some 24), .extract 1, [.tmp 19], none⟩,
    ⟨(some 5), .mov, [.tmp 23], none⟩,
    ⟨(some 6), .mov, [.tmp 24], none⟩] false)
  (.seq (.ops [
    ⟨(some 26), .mov, [.tmp 0], none⟩,
    ⟨(some 27), .mov, [.tmp 1], none⟩,
    ⟨(some 28), .call 19, [.tmp 26, .tmp 27], none⟩,
    ⟨(some 25), .mov, [.tmp 28], none⟩,
    ⟨(some 29), .extract 0, [.tmp 25], none⟩,
    ⟨(some 30), .extract 1, [.tmp 25], none⟩,
    ⟨(some 7), .mov, [.tmp 29], none⟩,
    ⟨(some 8), .mov, [.tmp 30], none⟩] false)
  (.seq (.ops [
    ⟨(some 31), .mov, [.tmp 5], none⟩,
    ⟨(some 32), .mov, [.tmp 7], none⟩,
    ⟨(some 33), .call 17, [.tmp 31, .tmp 32], none⟩,
    ⟨(some 34), .mov, [.tmp 33], none⟩,
    ⟨(some 35), .mov, [.tmp 6], (some (34, true))⟩,
    ⟨(some 36), .mov, [.tmp 8], (some (34, true))⟩,
    ⟨(some 37), .cmp .eql, [.tmp 35, .tmp 36], (some (34, true))⟩,
    ⟨(some 38), .pick, [.tmp 34, .tmp 37, .const (.bool false)], none⟩,
    ⟨(some 4), .mov, [.tmp 38], none⟩] false)
  .ret))))))⟩
theorem lawLow : lowF Try.prog {} Try.f5 = some lawIr := by kernel_rfl
def lawS : Spec := spec (List Ride × List Ride) (fun p => [L 7 (p.1.map encR), L 7 (p.2.map encR)]) (fun _ => True) (fun _ => B true)
theorem lawV : fnV Try.prog lawIr lawS := by
  intro ⟨(a : List Ride), (b : List Ride)⟩ hx
  by_cases hr : rightB a = true
  · by_cases hq : rightB b = true
    · obtain ⟨⟨h1, h2⟩, hok, hs⟩ := rightB_ok hr
      obtain ⟨⟨g1, g2⟩, gok, gs⟩ := rightB_ok hq
      have pre : (a.length ≤ 3000 ∧ Sorted a) ∧ b.length ≤ 3000 ∧ Sorted b := ⟨⟨by omega, hs⟩, by omega, gs⟩
      repeat' ((conv => whnf); first | (refine ⟨fun h => ?_, fun h => ?_⟩ <;> try (exfalso; first | omega | exact absurd h (by decide) | exact h rfl | (simp at h; done) | (rw [hr] at h; exact absurd h (by decide)) | (rw [hq] at h; exact absurd h (by decide)))) | refine ⟨_, alive_h, (), trivial, leVs_of_eq rfl, .inr rfl, rfl, ?_⟩ | refine ⟨_, lright_h, _, trivial, leVs_of_eq rfl, .inr rfl, rfl, ?_⟩ | refine ⟨_, mergeW, (a, b), pre, leVs_of_eq rfl, .inl rfl, rfl, ?_⟩ | refine ⟨_, refMergeW, (a, b), pre, leVs_of_eq rfl, .inl rfl, rfl, ?_⟩ | refine ⟨_, same_h, (mergeL a b, mergeL a b), Nat.le_trans (mergeL_len a b) (by decide), leVs_of_eq rfl, .inl rfl, rfl, ?_⟩ | exact ⟨[], rfl, trivial, rfl⟩ | fail)
    · repeat' ((conv => whnf); first | (refine ⟨fun h => ?_, fun h => ?_⟩ <;> try (exfalso; first | omega | exact absurd h (by decide) | exact h rfl | (simp at h; done) | (rw [hr] at h; exact absurd h (by decide)) | (exact hq h))) | refine ⟨_, alive_h, (), trivial, leVs_of_eq rfl, .inr rfl, rfl, ?_⟩ | refine ⟨_, lright_h, _, trivial, leVs_of_eq rfl, .inr rfl, rfl, ?_⟩ | exact ⟨[], rfl, trivial, rfl⟩ | fail)
  · repeat' ((conv => whnf); first | (refine ⟨fun h => ?_, fun h => ?_⟩ <;> try (exfalso; first | omega | exact absurd h (by decide) | exact h rfl | (simp at h; done) | (exact hr h))) | refine ⟨_, alive_h, (), trivial, leVs_of_eq rfl, .inr rfl, rfl, ?_⟩ | refine ⟨_, lright_h, _, trivial, leVs_of_eq rfl, .inr rfl, rfl, ?_⟩ | exact ⟨[], rfl, trivial, rfl⟩ | fail)
theorem law_h : Holds Try.prog 5 lawS := holds_of mix Try.func5 lawLow (fun _ => rfl) lawV

/-! ### THE ROW's STEP -/
theorem own : ownKnob Try.prog.godebug = none := by kernel_rfl
theorem laidOut : laidOutB Try.prog = true := by kernel_rfl
set_option maxRecDepth 100000 in
theorem lifted (os : Os) (started : os.Started) (H : Type) (enc : TypeId × Value → H) :
    ReturnsInHanded {} Try.checked os 5 .any (Rows.ridesMergesSpec.pre6 enc Try.prog Try.f5 Rows.ridesMergesRow.domain false) (Rows.ridesMergesSpec.post enc Try.prog Try.f5 false true false false) := by
  refine returnsInHanded_of_change (C := Try.checked) own started (by kernel_rfl) Try.func5
    (ChangeSpec.witness6 (enc := enc) (C := Try.checked) false ⟨#[], #[.slice none 0 0, .slice none 0 0], []⟩ 8 (by kernel_rfl) (by kernel_rfl) (by kernel_rfl) (by kernel_rfl)) ?_
  intro W base args ds gs before hval0 hW hcnd _
  have hval : ∀ (j : Nat) t v, Try.f5.params[j]? = some t → args[j]? = some v → Value.okWide Try.prog W .any base t v := hval0
  have hW' := hW
  obtain ⟨p, q, hA0, hV, rfl, hfz, hnd⟩ := hW
  have hA : DataW.TrodAll enc Try.prog W 0 (fun _ => true) true Try.f5.params.toList args.toList ds p := hA0
  rw [Try.params5] at hA hval
  obtain ⟨v0, vs0, d0, ds0, p0, q0, hargs, rfl, rfl, h0, r0⟩ := trodAll_cons hA
  obtain ⟨v1, vs1, d1, ds1, p1, q1, rfl, rfl, rfl, h1, r1⟩ := trodAll_cons r0
  obtain ⟨rfl, rfl, rfl⟩ := trodAll_nil r1
  obtain rfl : args = #[v0, v1] := by cases args; simp_all
  obtain ⟨rfl, rfl⟩ := trodVars_none hV
  have lt0 : ∀ x ∈ p0, x.block < W.heap.size := by obtain ⟨m, hm⟩ := h0; exact DataW.trod_lt m _ _ _ hm
  obtain ⟨z0, w0, x0⟩ := openRides (hval 0 22 v0 rfl rfl) h0
  have lt1 : ∀ x ∈ p1, x.block < W.heap.size := by obtain ⟨m, hm⟩ := h1; exact DataW.trod_lt m _ _ _ hm
  obtain ⟨z1, w1, x1⟩ := openRides (hval 1 22 v1 rfl rfl) h1
  clear hA0 hval0
  refine Calls.mono (law_calls law_h (z0, z1) trivial rfl (vs := [v0, v1]) (replist_mk x0 (replist_mk x1 replist_mk0))) fun e W' ⟨he, bel⟩ => ?_
  subst he
  exact ⟨_, rfl, _, _, _, [], _, [], hW', trodAll_mk1 (shut_bool Try.underlying4 _), (trodAll_cons_mk (Below.trod laidOut (by kernel_rfl) (of_decide_eq_true (by kernel_rfl)) h0 bel lt0) (trodAll_cons_mk (Below.trod laidOut (by kernel_rfl) (of_decide_eq_true (by kernel_rfl)) h1 bel lt1) trodAll_mk0)), rfl, bel.frame _, fun h => by cases h⟩

theorem over : Rows.ridesMergesRow.holds Try.pinned (OpenSpec.ofChange Rows.ridesMergesSpec) :=
  OpenClaim.holds_of_wide 5 Try.f5 rfl rfl rfl rfl rfl rfl rfl ⟨rfl, rfl, rfl, rfl, rfl⟩ rfl rfl rfl rfl rfl (by kernel_rfl) Try.func5 (by kernel_rfl)
    (of_decide_eq_true (by kernel_rfl)) (by unfold Func.isWrapper; first | (rw [if_pos (by decide +kernel)]; kernel_rfl) | (rw [if_neg (by decide +kernel)]; exact ⟨rfl, rfl⟩))
    (fun os started H enc _ => lifted os started H enc)

theorem proved : Rows.RidesMergesSaid := over
end Go.Proofs.Ytfghmpfiemmbgaa.lawMerges
