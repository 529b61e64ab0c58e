/- RidesAdds: Add returns the specified store or error. No condition. -/
import Derived.Test.YtfghmpfiemmbgaaG2
namespace Go.Proofs.Ytfghmpfiemmbgaa.lawAdds
open Go.ChangeShapes Go.WideShapes Go.ChangeAt Go.RowKit Go.Deep Go.Joins
set_option linter.unusedVariables false

/-! skiarea/skiarealaw31.RidesAdds -/
def lawIr : IFn := ⟨43, [.tmp 4],
  (.seq (.ops [
    ⟨(some 3), .box, [.tmp 1], none⟩,
    ⟨(some 4), .mov, [.const (.bool false)], none⟩] false)
  (.seq (.seq (.ops [
    ⟨(some 11), .call 11, [], none⟩,
    ⟨(some 12), .not, [.tmp 11], none⟩] false)
  (.cond (.tmp 12)
    (.seq (.ops [
      ⟨(some 4), .mov, [.const (.bool false)], none⟩] false)
    .ret)
    .skip))
  (.seq (.seq (.ops [
    ⟨(some 13), .mov, [.tmp 0], none⟩,
    ⟨(some 14), .call 14, [.tmp 13], none⟩,
    ⟨(some 15), .not, [.tmp 14], none⟩] false)
  (.cond (.tmp 15)
    (.seq (.ops [
      ⟨(some 4), .mov, [.const (.bool true)], none⟩] false)
    .ret)
    .skip))
  (.seq (.ops [
    ⟨(some 17), .mov, [.tmp 0], none⟩,
    ⟨(some 18), .load 7 true, [.tmp 3], none⟩,
    ⟨(some 19), .call 15, [.tmp 17, .tmp 18], none⟩,
    ⟨(some 16), .mov, [.tmp 19], none⟩,
    ⟨(some 20), .extract 0, [.tmp 16], none⟩,
    ⟨(some 21), .extract 1, [.tmp 16], none⟩,
    ⟨(some 22), .extract 2, [.tmp 16], none⟩,
    ⟨(some 5), .mov, [.tmp 20], none⟩,
    ⟨(some 6), .mov, [.tmp 21], none⟩,
    ⟨(some 7), .mov, [.tmp 22], none⟩] false)
  (.seq (.ops [
    ⟨(some 24), .mov, [.tmp 0], none⟩,
    ⟨(some 25), .load 7 true, [.tmp 3], none⟩,
    ⟨(some 26), .call 16, [.tmp 24, .tmp 25], none⟩,
    ⟨(some 23), .mov, [.tmp 26], none⟩,
    ⟨(some 27), .extract 0, [.tmp 23], none⟩,
    ⟨(some 28), .extract 1, [.tmp 23], none⟩,
    ⟨(some 29), .extract 2, [.tmp 23], none⟩,
    ⟨(some 8), .mov, [.tmp 27], none⟩,
    ⟨(some 9), .mov, [.tmp 28], none⟩,
    ⟨(some 10), .mov, [.tmp 29], none⟩] false)
  (.seq (.ops [
    ⟨(some 30), .mov, [.tmp 5], none⟩,
    ⟨(some 31), .mov, [.tmp 8], none⟩,
    ⟨(some 32), .call 17, [.tmp 30, .tmp 31], none⟩,
    ⟨(some 33), .mov, [.tmp 32], none⟩,
    ⟨(some 34), .mov, [.tmp 6], (some (33, true))⟩,
    ⟨(some 35), .mov, [.tmp 9], (some (33, true))⟩,
    ⟨(some 36), .eqb false, [.tmp 34, .tmp 35], (some (33, true))⟩,
    ⟨(some 37), .pick, [.tmp 33, .tmp 36, .const (.bool false)], none⟩,
    ⟨(some 38), .mov, [.tmp 37], none⟩,
    ⟨(some 39), .mov, [.tmp 7], (some (38, true))⟩,
    ⟨(some 40), .mov, [.tmp 10], (some (38, true))⟩,
    ⟨(some 41), .cmp .eql, [.tmp 39, .tmp 40], (some (38, true))⟩,
    ⟨(some 42), .pick, [.tmp 38, .tmp 41, .const (.bool false)], none⟩,
    ⟨(some 4), .mov, [.tmp 42], none⟩] false)
  .ret))))))⟩
theorem lawLow : lowF Try.prog {} Try.f4 = some lawIr := by kernel_rfl
def lawS : Spec := spec (List Ride × Ride) (fun p => [L 7 (p.1.map encR), aR p.2]) (fun _ => True) (fun _ => B true)
theorem lawV : fnV Try.prog lawIr lawS := by
  intro ⟨(l : List Ride), (r : Ride)⟩ hx
  by_cases hr : rightB l = true
  · obtain ⟨⟨h1, h2⟩, hok, hs⟩ := rightB_ok hr
    have hl3 : l.length ≤ 3000 := by omega
    cases hb : addB l r
    all_goals repeat' ((conv => whnf); first | (refine ⟨fun h => ?_, fun h => ?_⟩ <;> try (exfalso; first | omega | exact absurd h (by decide) | exact h rfl | (simp at h; done) | (rw [hr] at h; exact absurd h (by decide)) | exact absurd (h.symm.trans hb) (by decide))) | refine ⟨_, alive_h, (), trivial, leVs_of_eq rfl, .inr rfl, rfl, ?_⟩ | refine ⟨_, lright_h, _, trivial, leVs_of_eq rfl, .inr rfl, rfl, ?_⟩ | refine ⟨_, addW, (l, r), ⟨hl3, hs⟩, leVs_of_eq rfl, .inl rfl, rfl, ?_⟩ | refine ⟨_, refAddW, (l, r), ⟨hl3, hs⟩, leVs_of_eq rfl, .inl rfl, rfl, ?_⟩ | refine ⟨_, same_h, (addL l r, addL l r), Nat.le_trans (addL_len l r) (by decide), leVs_of_eq rfl, .inl rfl, rfl, ?_⟩ | exact ⟨[], rfl, trivial, rfl⟩ | fail)
  · repeat' ((conv => whnf); first | (refine ⟨fun h => ?_, fun h => ?_⟩ <;> try (exfalso; first | omega | exact absurd h (by decide) | exact h rfl | (simp at h; done) | (exact hr h))) | refine ⟨_, alive_h, (), trivial, leVs_of_eq rfl, .inr rfl, rfl, ?_⟩ | refine ⟨_, lright_h, _, trivial, leVs_of_eq rfl, .inr rfl, rfl, ?_⟩ | exact ⟨[], rfl, trivial, rfl⟩ | fail)
theorem law_h : Holds Try.prog 4 lawS := holds_of mix Try.func4 lawLow (fun _ => rfl) lawV

/-! ### THE ROW's STEP -/
theorem own : ownKnob Try.prog.godebug = none := by kernel_rfl
theorem laidOut : laidOutB Try.prog = true := by kernel_rfl
set_option maxRecDepth 100000 in
theorem lifted (os : Os) (started : os.Started) (H : Type) (enc : TypeId × Value → H) :
    ReturnsInHanded {} Try.checked os 4 .any (Rows.ridesAddsSpec.pre6 enc Try.prog Try.f4 Rows.ridesAddsRow.domain false) (Rows.ridesAddsSpec.post enc Try.prog Try.f4 false true false false) := by
  refine returnsInHanded_of_change (C := Try.checked) own started (by kernel_rfl) Try.func4
    (ChangeSpec.witness6 (enc := enc) (C := Try.checked) false ⟨#[], #[.slice none 0 0, .agg #[.int .i64 0, .int .i64 0, .int .i64 0, .int .i64 0, .int .i64 0, .int .i64 0, .int .i64 0]], []⟩ 8 (by kernel_rfl) (by kernel_rfl) (by kernel_rfl) (by kernel_rfl)) ?_
  intro W base args ds gs before hval0 hW hcnd _
  have hval : ∀ (j : Nat) t v, Try.f4.params[j]? = some t → args[j]? = some v → Value.okWide Try.prog W .any base t v := hval0
  have hW' := hW
  obtain ⟨p, q, hA0, hV, rfl, hfz, hnd⟩ := hW
  have hA : DataW.TrodAll enc Try.prog W 0 (fun _ => true) true Try.f4.params.toList args.toList ds p := hA0
  rw [Try.params4] at hA hval
  obtain ⟨v0, vs0, d0, ds0, p0, q0, hargs, rfl, rfl, h0, r0⟩ := trodAll_cons hA
  obtain ⟨v1, vs1, d1, ds1, p1, q1, rfl, rfl, rfl, h1, r1⟩ := trodAll_cons r0
  obtain ⟨rfl, rfl, rfl⟩ := trodAll_nil r1
  obtain rfl : args = #[v0, v1] := by cases args; simp_all
  obtain ⟨rfl, rfl⟩ := trodVars_none hV
  have lt0 : ∀ x ∈ p0, x.block < W.heap.size := by obtain ⟨m, hm⟩ := h0; exact DataW.trod_lt m _ _ _ hm
  obtain ⟨z0, w0, x0⟩ := openRides (hval 0 22 v0 rfl rfl) h0
  have lt1 : ∀ x ∈ p1, x.block < W.heap.size := by obtain ⟨m, hm⟩ := h1; exact DataW.trod_lt m _ _ _ hm
  obtain ⟨z1, w1, x1⟩ := openRide (hval 1 28 v1 rfl rfl) h1
  clear hA0 hval0
  refine Calls.mono (law_calls law_h (z0, z1) trivial rfl (vs := [v0, v1]) (replist_mk x0 (replist_mk x1 replist_mk0))) fun e W' ⟨he, bel⟩ => ?_
  subst he
  exact ⟨_, rfl, _, _, _, [], _, [], hW', trodAll_mk1 (shut_bool Try.underlying4 _), (trodAll_cons_mk (Below.trod laidOut (by kernel_rfl) (of_decide_eq_true (by kernel_rfl)) h0 bel lt0) (trodAll_cons_mk (Below.trod laidOut (by kernel_rfl) (of_decide_eq_true (by kernel_rfl)) h1 bel lt1) trodAll_mk0)), rfl, bel.frame _, fun h => by cases h⟩

theorem over : Rows.ridesAddsRow.holds Try.pinned (OpenSpec.ofChange Rows.ridesAddsSpec) :=
  OpenClaim.holds_of_wide 4 Try.f4 rfl rfl rfl rfl rfl rfl rfl ⟨rfl, rfl, rfl, rfl, rfl⟩ rfl rfl rfl rfl rfl (by kernel_rfl) Try.func4 (by kernel_rfl)
    (of_decide_eq_true (by kernel_rfl)) (by unfold Func.isWrapper; first | (rw [if_pos (by decide +kernel)]; kernel_rfl) | (rw [if_neg (by decide +kernel)]; exact ⟨rfl, rfl⟩))
    (fun os started H enc _ => lifted os started H enc)

theorem proved : Rows.RidesAddsSaid := over
end Go.Proofs.Ytfghmpfiemmbgaa.lawAdds
