/- PeriodChecks: Right returns the first error of any books. No condition. -/
import Derived.Test.YtpkhannkbafimaaGreatArg
namespace Go.Proofs.YtpkhannkbafimaaGreat.lawChecks
open Go.ChangeShapes Go.WideShapes Go.ChangeAt Go.RowKit Go.Deep Go.Joins
set_option linter.unusedVariables false
set_option maxRecDepth 20000

/-! skiarea/skiarealaw38.PeriodChecks -/
def lawIr : IFn := ⟨33, [.tmp 2],
  (.seq (.ops [
    ⟨(some 1), .box, [.tmp 0], none⟩,
    ⟨(some 2), .mov, [.const (.bool false)], none⟩] false)
  (.seq (.seq (.ops [
    ⟨(some 3), .call 11, [], none⟩,
    ⟨(some 4), .not, [.tmp 3], none⟩] false)
  (.cond (.tmp 4)
    (.seq (.ops [
      ⟨(some 2), .mov, [.const (.bool false)], none⟩] false)
    .ret)
    .skip))
  (.seq (.ops [
    ⟨(some 5), .load 3 true, [.tmp 1], none⟩,
    ⟨(some 6), .call 12, [.tmp 5], none⟩,
    ⟨(some 7), .not, [.tmp 6], none⟩,
    ⟨(some 8), .mov, [.tmp 7], none⟩,
    ⟨(some 9), .faddr 2, [.tmp 1], (some (8, true))⟩,
    ⟨(some 10), .load 1 false, [.tmp 9], (some (8, true))⟩,
    ⟨(some 11), .len, [.tmp 10], (some (8, true))⟩,
    ⟨(some 12), .cmp .leq, [.tmp 11, .const (.int .i64 2000)], (some (8, true))⟩,
    ⟨(some 13), .mov, [.tmp 12], (some (8, true))⟩,
    ⟨(some 14), .faddr 2, [.tmp 1], (some (13, false))⟩,
    ⟨(some 15), .load 1 false, [.tmp 14], (some (13, false))⟩,
    ⟨(some 16), .len, [.tmp 15], (some (13, false))⟩,
    ⟨(some 17), .cmp .gtr, [.tmp 16, .const (.int .i64 2100)], (some (13, false))⟩,
    ⟨(some 18), .pick, [.tmp 13, .const (.bool true), .tmp 17], (some (8, true))⟩,
    ⟨(some 19), .mov, [.tmp 18], (some (8, true))⟩,
    ⟨(some 20), .faddr 0, [.tmp 1], (some (19, false))⟩,
    ⟨(some 21), .load 1 false, [.tmp 20], (some (19, false))⟩,
    ⟨(some 22), .len, [.tmp 21], (some (19, false))⟩,
    ⟨(some 23), .cmp .gtr, [.tmp 22, .const (.int .i64 70)], (some (19, false))⟩,
    ⟨(some 24), .pick, [.tmp 19, .const (.bool true), .tmp 23], (some (8, true))⟩,
    ⟨(some 25), .pick, [.tmp 8, .tmp 24, .const (.bool false)], none⟩,
    ⟨(some 26), .mov, [.tmp 25], none⟩,
    ⟨(some 27), .load 3 true, [.tmp 1], (some (26, false))⟩,
    ⟨(some 28), .call 13, [.tmp 27], (some (26, false))⟩,
    ⟨(some 29), .load 3 true, [.tmp 1], (some (26, false))⟩,
    ⟨(some 30), .call 14, [.tmp 29], (some (26, false))⟩,
    ⟨(some 31), .cmp .eql, [.tmp 28, .tmp 30], (some (26, false))⟩,
    ⟨(some 32), .pick, [.tmp 26, .const (.bool true), .tmp 31], none⟩,
    ⟨(some 2), .mov, [.tmp 32], none⟩] true)
  .ret)))⟩
theorem lawLow : lowF Tryz.prog {} Tryz.f3 = some lawIr := by kernel_rfl
def lawS : Spec := spec (Bk) (fun b => [aB b]) okB (fun _ => B true)
theorem lawV : fnV Tryz.prog lawIr lawS := by
  intro (b : Bk) ho
  replace ho : okB b := ho
  have hlp : (b.ps.map encP).length = b.ps.length := List.length_map ..
  have hlo : (b.po.map encO).length = b.po.length := List.length_map ..
  have hlr : (b.rs.map encC).length = b.rs.length := List.length_map ..
  show vc _ _ _ _ ⟨argEnv 0 [aB b], [], 0⟩
  obtain ⟨e, hE⟩ : ∃ e, rightB b = e := ⟨_, rfl⟩
  cases d : decide (FewB b)
  all_goals
    repeat' ((conv => whnf); first | (refine ⟨fun h => ?_, fun h => ?_⟩ <;> try (exfalso; first | omega | exact absurd h (by decide) | exact h rfl | exact absurd (show true = false from h) (by decide) | exact absurd (show false = true from h) (by decide))) | (refine ⟨_, alive_h, (), trivial, leVs_of_eq rfl, .inl rfl, rfl, ?_⟩; show norm (B true) _) | (refine ⟨_, few_h, b, ho, leVs_of_eq rfl, .inl rfl, rfl, ?_⟩; show norm (B (decide (FewB b))) _; rw [d]) | (refine ⟨_, Right_h, b, ho, leVs_of_eq rfl, .inl rfl, rfl, ?_⟩; show norm (I (rightB b)) _; rw [hE]) | (refine ⟨_, rRight_h, b, ho, leVs_of_eq rfl, .inl rfl, rfl, ?_⟩; show norm (I (rightB b)) _; rw [hE]) | exact ⟨[], rfl, trivial, rfl⟩ | fail)
theorem law_h : Holds Tryz.prog 3 lawS := holds_of mix Tryz.func3 lawLow (fun _ => rfl) lawV

/-! ### THE ROW's STEP -/
theorem own : ownKnob Tryz.prog.godebug = none := by kernel_rfl
theorem laidOut : laidOutB Tryz.prog = true := by kernel_rfl
set_option maxRecDepth 100000 in
theorem lifted (os : Os) (started : os.Started) (H : Type) (enc : TypeId × Value → H) :
    ReturnsInHanded {} Tryz.checked os 3 .any (Rows.periodChecksSpec.pre6 enc Tryz.prog Tryz.f3 Rows.periodChecksRow.domain false) (Rows.periodChecksSpec.post enc Tryz.prog Tryz.f3 false true false false) := by
  refine returnsInHanded_of_change (C := Tryz.checked) own started (by kernel_rfl) Tryz.func3
    (ChangeSpec.witness6 (enc := enc) (C := Tryz.checked) false ⟨#[], #[.agg #[.slice none 0 0, .slice none 0 0, .slice none 0 0]], []⟩ 8 (by kernel_rfl) (by kernel_rfl) (by kernel_rfl) (by kernel_rfl)) ?_
  intro W base args ds gs before hval0 hW hcnd _
  have hval : ∀ (j : Nat) t v, Tryz.f3.params[j]? = some t → args[j]? = some v → Value.okWide Tryz.prog W .any base t v := hval0
  have hW' := hW
  obtain ⟨p, q, hA0, hV, rfl, hfz, hnd⟩ := hW
  have hA : DataW.TrodAll enc Tryz.prog W 0 (fun _ => true) true Tryz.f3.params.toList args.toList ds p := hA0
  rw [Tryz.params3] at hA hval
  obtain ⟨v0, vs0, d0, ds0, p0, q0, hargs, rfl, rfl, h0, r0⟩ := trodAll_cons hA
  obtain ⟨rfl, rfl, rfl⟩ := trodAll_nil r0
  obtain rfl : args = #[v0] := by cases args; simp_all
  obtain ⟨rfl, rfl⟩ := trodVars_none hV
  have lt0 : ∀ x ∈ p0, x.block < W.heap.size := by obtain ⟨m, hm⟩ := h0; exact DataW.trod_lt m _ _ _ hm
  obtain ⟨z0, w0, x0⟩ := openB (hval 0 26 v0 rfl rfl) h0
  clear hA0 hval0
  refine Calls.mono (law_calls law_h z0 w0 rfl (vs := [v0]) (replist_mk x0 replist_mk0)) fun e W' ⟨he, bel⟩ => ?_
  subst he
  exact ⟨_, rfl, _, _, _, [], _, [], hW', trodAll_mk1 (shut_bool Tryz.underlying4 _), (trodAll_cons_mk (Below.trod laidOut (by kernel_rfl) (of_decide_eq_true (by kernel_rfl)) h0 bel lt0) trodAll_mk0), rfl, bel.frame _, fun h => by cases h⟩

theorem over : Rows.periodChecksRow.holds Tryz.pinned (OpenSpec.ofChange Rows.periodChecksSpec) :=
  OpenClaim.holds_of_wide 3 Tryz.f3 rfl rfl rfl rfl rfl rfl rfl ⟨rfl, rfl, rfl, rfl, rfl⟩ rfl rfl rfl rfl rfl (by kernel_rfl) Tryz.func3 (by kernel_rfl)
    (of_decide_eq_true (by kernel_rfl)) (by unfold Func.isWrapper; first | (rw [if_pos (by decide +kernel)]; kernel_rfl) | (rw [if_neg (by decide +kernel)]; exact ⟨rfl, rfl⟩))
    (fun os started H enc _ => lifted os started H enc)

theorem proved : Rows.PeriodChecksSaid := over
end Go.Proofs.YtpkhannkbafimaaGreat.lawChecks
