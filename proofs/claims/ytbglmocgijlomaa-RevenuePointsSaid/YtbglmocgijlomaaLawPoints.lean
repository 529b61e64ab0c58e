/- RevenuePoints: Points returns the points of all operators for any medium. No condition. -/
import Derived.Test.YtbglmocgijlomaaArg
namespace Go.Proofs.Ytbglmocgijlomaa.lawPoints
open Go.ChangeShapes Go.WideShapes Go.ChangeAt Go.RowKit Go.Deep Go.Joins
set_option linter.unusedVariables false
set_option maxRecDepth 20000

/-! skiarea/skiarealaw35.RevenuePoints -/
def lawIr : IFn := ⟨29, [.tmp 4],
  (.seq (.ops [
    ⟨(some 2), .box, [.tmp 0], none⟩,
    ⟨(some 4), .mov, [.const (.bool false)], none⟩] false)
  (.seq (.seq (.ops [
    ⟨(some 5), .call 10, [], none⟩,
    ⟨(some 6), .not, [.tmp 5], none⟩] false)
  (.cond (.tmp 6)
    (.seq (.ops [
      ⟨(some 4), .mov, [.const (.bool false)], none⟩] false)
    .ret)
    .skip))
  (.seq (.ops [
    ⟨(some 7), .load 6 true, [.tmp 2], none⟩,
    ⟨(some 8), .call 13, [.tmp 7], none⟩,
    ⟨(some 9), .not, [.tmp 8], none⟩,
    ⟨(some 10), .mov, [.tmp 9], none⟩,
    ⟨(some 11), .faddr 0, [.tmp 2], (some (10, false))⟩,
    ⟨(some 12), .load 4 true, [.tmp 11], (some (10, false))⟩,
    ⟨(some 13), .faddr 4, [.tmp 2], (some (10, false))⟩,
    ⟨(some 14), .load 1 false, [.tmp 13], (some (10, false))⟩,
    ⟨(some 15), .faddr 5, [.tmp 2], (some (10, false))⟩,
    ⟨(some 16), .load 1 false, [.tmp 15], (some (10, false))⟩,
    ⟨(some 17), .mov, [.tmp 1], (some (10, false))⟩,
    ⟨(some 18), .call 15, [.tmp 12, .tmp 14, .tmp 16, .tmp 17], (some (10, false))⟩,
    ⟨(some 19), .faddr 0, [.tmp 2], (some (10, false))⟩,
    ⟨(some 20), .load 4 true, [.tmp 19], (some (10, false))⟩,
    ⟨(some 21), .faddr 4, [.tmp 2], (some (10, false))⟩,
    ⟨(some 22), .load 1 false, [.tmp 21], (some (10, false))⟩,
    ⟨(some 23), .faddr 5, [.tmp 2], (some (10, false))⟩,
    ⟨(some 24), .load 1 false, [.tmp 23], (some (10, false))⟩,
    ⟨(some 25), .mov, [.tmp 1], (some (10, false))⟩,
    ⟨(some 26), .call 16, [.tmp 20, .tmp 22, .tmp 24, .tmp 25], (some (10, false))⟩,
    ⟨(some 27), .call 14, [.tmp 18, .tmp 26], (some (10, false))⟩,
    ⟨(some 28), .pick, [.tmp 10, .const (.bool true), .tmp 27], none⟩,
    ⟨(some 4), .mov, [.tmp 28], none⟩] true)
  .ret)))⟩
theorem lawLow : lowF Try.prog {} Try.f4 = some lawIr := by kernel_rfl
def lawS : Spec := spec (Book × Int) (fun p => [aB p.1, I p.2]) (fun p => okB p.1) (fun _ => B true)
theorem lawV : fnV Try.prog lawIr lawS := by
  intro ⟨(b : Book), (n : Int)⟩ (ho : okB b)
  show vc _ _ _ _ ⟨argEnv 0 [aB b, I n], [], 0⟩
  by_cases hd : defP b
  · have hk := hd.bk ho
    have h1 := hk.hr
    obtain ⟨P, hP⟩ : ∃ P, ptsAll b.m b.l b.rides n = P := ⟨_, rfl⟩
    have hPl : P.length ≤ 9223372036854775807 := by rw [← hP, ptsAll_len]; decide
    repeat' ((conv => whnf); first | (refine ⟨fun h => ?_, fun h => ?_⟩ <;> try (exfalso; first | omega | exact absurd h (by decide) | exact h rfl)) | (refine ⟨_, alive_h, (), trivial, leVs_of_eq rfl, .inl rfl, rfl, ?_⟩; show norm (B true) _) | (refine ⟨_, defined_h, b, ho, leVs_of_eq rfl, .inl rfl, rfl, ?_⟩; show norm (B (decide (defP b))) _; rw [decide_eq_true hd]) | (refine ⟨_, points_h, (b.m, b.l, b.rides, n), ⟨⟨hk.hm, hk.ll⟩, hk.hR, (by show b.rides.length ≤ 100000; omega)⟩, leVs_of_eq rfl, .inl rfl, rfl, ?_⟩; show norm (L 1 ((ptsAll b.m b.l b.rides n).map e1)) _; rw [hP]) | (refine ⟨_, rpoints_h, (b.m, b.l, b.rides, n), ⟨⟨hk.hm, hk.ll⟩, hk.hR, (by show b.rides.length ≤ 100000; omega), hk.ops⟩, leVs_of_eq rfl, .inl rfl, rfl, ?_⟩; show norm (L 1 ((ptsAll b.m b.l b.rides n).map e1)) _; rw [hP]) | (refine ⟨_, sameI_h, (P, P), hPl, leVs_of_eq rfl, .inl rfl, rfl, ?_⟩; show norm (B (decide (P = P))) _; rw [decide_eq_true rfl]) | exact ⟨[], rfl, trivial, rfl⟩ | fail)
  · repeat' ((conv => whnf); first | (refine ⟨fun h => ?_, fun h => ?_⟩ <;> try (exfalso; first | omega | exact absurd h (by decide) | exact h rfl)) | (refine ⟨_, alive_h, (), trivial, leVs_of_eq rfl, .inl rfl, rfl, ?_⟩; show norm (B true) _) | (refine ⟨_, defined_h, b, ho, leVs_of_eq rfl, .inl rfl, rfl, ?_⟩; show norm (B (decide (defP b))) _; rw [decide_eq_false hd]) | exact ⟨[], rfl, trivial, rfl⟩ | fail)
theorem law_h : Holds Try.prog 4 lawS := holds_of mix Try.func4 lawLow (fun _ => rfl) lawV

/-! ### THE ROW's STEP -/
theorem own : ownKnob Try.prog.godebug = none := by kernel_rfl
theorem laidOut : laidOutB Try.prog = true := by kernel_rfl
set_option maxRecDepth 100000 in
theorem lifted (os : Os) (started : os.Started) (H : Type) (enc : TypeId × Value → H) :
    ReturnsInHanded {} Try.checked os 4 .any (Rows.revenuePointsSpec.pre6 enc Try.prog Try.f4 Rows.revenuePointsRow.domain false) (Rows.revenuePointsSpec.post enc Try.prog Try.f4 false true false false) := by
  refine returnsInHanded_of_change (C := Try.checked) own started (by kernel_rfl) Try.func4
    (ChangeSpec.witness6 (enc := enc) (C := Try.checked) false ⟨#[], #[.agg #[.slice none 0 0, .slice none 0 0, .slice none 0 0, .slice none 0 0, .slice none 0 0, .slice none 0 0], .int .i64 0], []⟩ 8 (by kernel_rfl) (by kernel_rfl) (by kernel_rfl) (by kernel_rfl)) ?_
  intro W base args ds gs before hval0 hW hcnd _
  have hval : ∀ (j : Nat) t v, Try.f4.params[j]? = some t → args[j]? = some v → Value.okWide Try.prog W .any base t v := hval0
  have hW' := hW
  obtain ⟨p, q, hA0, hV, rfl, hfz, hnd⟩ := hW
  have hA : DataW.TrodAll enc Try.prog W 0 (fun _ => true) true Try.f4.params.toList args.toList ds p := hA0
  rw [Try.params4] at hA hval
  obtain ⟨v0, vs0, d0, ds0, p0, q0, hargs, rfl, rfl, h0, r0⟩ := trodAll_cons hA
  obtain ⟨v1, vs1, d1, ds1, p1, q1, rfl, rfl, rfl, h1, r1⟩ := trodAll_cons r0
  obtain ⟨rfl, rfl, rfl⟩ := trodAll_nil r1
  obtain rfl : args = #[v0, v1] := by cases args; simp_all
  obtain ⟨rfl, rfl⟩ := trodVars_none hV
  have lt0 : ∀ x ∈ p0, x.block < W.heap.size := by obtain ⟨m, hm⟩ := h0; exact DataW.trod_lt m _ _ _ hm
  obtain ⟨z0, w0, x0⟩ := openB (hval 0 36 v0 rfl rfl) h0
  have lt1 : ∀ x ∈ p1, x.block < W.heap.size := by obtain ⟨m, hm⟩ := h1; exact DataW.trod_lt m _ _ _ hm
  obtain ⟨z1, w1, x1⟩ := open_i Try.underlying3 (hval 1 3 v1 rfl rfl) h1
  clear hA0 hval0
  refine Calls.mono (law_calls law_h (z0, z1) w0 rfl (vs := [v0, v1]) (replist_mk x0 (replist_mk x1 replist_mk0))) fun e W' ⟨he, bel⟩ => ?_
  subst he
  exact ⟨_, rfl, _, _, _, [], _, [], hW', trodAll_mk1 (shut_bool Try.underlying4 _), (trodAll_cons_mk (Below.trod laidOut (by kernel_rfl) (of_decide_eq_true (by kernel_rfl)) h0 bel lt0) (trodAll_cons_mk (Below.trod laidOut (by kernel_rfl) (of_decide_eq_true (by kernel_rfl)) h1 bel lt1) trodAll_mk0)), rfl, bel.frame _, fun h => by cases h⟩

theorem over : Rows.revenuePointsRow.holds Try.pinned (OpenSpec.ofChange Rows.revenuePointsSpec) :=
  OpenClaim.holds_of_wide 4 Try.f4 rfl rfl rfl rfl rfl rfl rfl ⟨rfl, rfl, rfl, rfl, rfl⟩ rfl rfl rfl rfl rfl (by kernel_rfl) Try.func4 (by kernel_rfl)
    (of_decide_eq_true (by kernel_rfl)) (by unfold Func.isWrapper; first | (rw [if_pos (by decide +kernel)]; kernel_rfl) | (rw [if_neg (by decide +kernel)]; exact ⟨rfl, rfl⟩))
    (fun os started H enc _ => lifted os started H enc)

theorem proved : Rows.RevenuePointsSaid := over
end Go.Proofs.Ytbglmocgijlomaa.lawPoints
