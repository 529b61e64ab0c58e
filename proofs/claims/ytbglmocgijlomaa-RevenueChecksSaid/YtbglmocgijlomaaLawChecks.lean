/- RevenueChecks: Right returns the first error of any sales. No condition. -/
import Derived.Test.YtbglmocgijlomaaArg
namespace Go.Proofs.Ytbglmocgijlomaa.lawChecks
open Go.ChangeShapes Go.WideShapes Go.ChangeAt Go.RowKit Go.Deep Go.Joins
set_option linter.unusedVariables false
set_option maxRecDepth 20000

/-! skiarea/skiarealaw35.RevenueChecks -/
def lawIr : IFn := ⟨25, [.tmp 2],
  (.seq (.ops [
    ⟨(some 2), .mov, [.const (.bool false)], none⟩] false)
  (.seq (.seq (.ops [
    ⟨(some 3), .call 10, [], none⟩,
    ⟨(some 4), .not, [.tmp 3], none⟩] false)
  (.cond (.tmp 4)
    (.seq (.ops [
      ⟨(some 2), .mov, [.const (.bool false)], none⟩] false)
    .ret)
    .skip))
  (.seq (.ops [
    ⟨(some 5), .mov, [.tmp 0], none⟩,
    ⟨(some 6), .len, [.tmp 5], none⟩,
    ⟨(some 7), .cmp .gtr, [.tmp 6, .const (.int .i64 100)], none⟩,
    ⟨(some 8), .mov, [.tmp 7], none⟩,
    ⟨(some 9), .mov, [.tmp 0], (some (8, true))⟩,
    ⟨(some 10), .len, [.tmp 9], (some (8, true))⟩,
    ⟨(some 11), .cmp .leq, [.tmp 10, .const (.int .i64 2000)], (some (8, true))⟩,
    ⟨(some 12), .pick, [.tmp 8, .tmp 11, .const (.bool false)], none⟩,
    ⟨(some 13), .mov, [.tmp 12], none⟩,
    ⟨(some 14), .mov, [.tmp 0], (some (13, false))⟩,
    ⟨(some 15), .len, [.tmp 14], (some (13, false))⟩,
    ⟨(some 16), .cmp .gtr, [.tmp 15, .const (.int .i64 2100)], (some (13, false))⟩,
    ⟨(some 17), .pick, [.tmp 13, .const (.bool true), .tmp 16], none⟩,
    ⟨(some 18), .mov, [.tmp 17], none⟩,
    ⟨(some 19), .mov, [.tmp 0], (some (18, false))⟩,
    ⟨(some 20), .call 11, [.tmp 19], (some (18, false))⟩,
    ⟨(some 21), .mov, [.tmp 0], (some (18, false))⟩,
    ⟨(some 22), .call 12, [.tmp 21], (some (18, false))⟩,
    ⟨(some 23), .cmp .eql, [.tmp 20, .tmp 22], (some (18, false))⟩,
    ⟨(some 24), .pick, [.tmp 18, .const (.bool true), .tmp 23], none⟩,
    ⟨(some 2), .mov, [.tmp 24], none⟩] false)
  .ret)))⟩
theorem lawLow : lowF Try.prog {} Try.f3 = some lawIr := by kernel_rfl
def lawS : Spec := spec (List Sale) (fun l => [L 6 (l.map encE)]) (fun _ => True) (fun _ => B true)
theorem lawV : fnV Try.prog lawIr lawS := by
  intro (l : List Sale) _
  show vc _ _ _ _ ⟨argEnv 0 [L 6 (l.map encE)], [], 0⟩
  have hl : (l.map encE).length = l.length := List.length_map ..
  by_cases h8 : (100 < l.length ∧ l.length ≤ 2000) ∨ 2100 < l.length
  · repeat' ((conv => whnf); first | (refine ⟨fun h => ?_, fun h => ?_⟩ <;> try (exfalso; first | omega | exact absurd h (by decide) | exact h rfl)) | (refine ⟨_, alive_h, (), trivial, leVs_of_eq rfl, .inl rfl, rfl, ?_⟩; show norm (B true) _) | exact ⟨[], rfl, trivial, rfl⟩ | fail)
  have hp : l.length ≤ 1000000 := by omega
  obtain ⟨e, hE⟩ : ∃ e, salesE l = e := ⟨_, rfl⟩
  repeat' ((conv => whnf); first | (refine ⟨fun h => ?_, fun h => ?_⟩ <;> try (exfalso; first | omega | exact absurd h (by decide) | exact h rfl)) | (refine ⟨_, alive_h, (), trivial, leVs_of_eq rfl, .inl rfl, rfl, ?_⟩; show norm (B true) _) | (refine ⟨_, sright_h, l, hp, leVs_of_eq rfl, .inl rfl, rfl, ?_⟩; show norm (I (salesE l)) _; rw [hE]) | (refine ⟨_, rsright_h, l, hp, leVs_of_eq rfl, .inl rfl, rfl, ?_⟩; show norm (I (salesE l)) _; rw [hE]) | exact ⟨[], rfl, trivial, rfl⟩ | fail)
theorem law_h : Holds Try.prog 3 lawS := holds_of mix Try.func3 lawLow (fun _ => rfl) lawV

/-! ### THE ROW's STEP -/
theorem own : ownKnob Try.prog.godebug = none := by kernel_rfl
theorem laidOut : laidOutB Try.prog = true := by kernel_rfl
set_option maxRecDepth 100000 in
theorem lifted (os : Os) (started : os.Started) (H : Type) (enc : TypeId × Value → H) :
    ReturnsInHanded {} Try.checked os 3 .any (Rows.revenueChecksSpec.pre6 enc Try.prog Try.f3 Rows.revenueChecksRow.domain false) (Rows.revenueChecksSpec.post enc Try.prog Try.f3 false true false false) := by
  refine returnsInHanded_of_change (C := Try.checked) own started (by kernel_rfl) Try.func3
    (ChangeSpec.witness6 (enc := enc) (C := Try.checked) false ⟨#[], #[.slice none 0 0], []⟩ 8 (by kernel_rfl) (by kernel_rfl) (by kernel_rfl) (by kernel_rfl)) ?_
  intro W base args ds gs before hval0 hW hcnd _
  have hval : ∀ (j : Nat) t v, Try.f3.params[j]? = some t → args[j]? = some v → Value.okWide Try.prog W .any base t v := hval0
  have hW' := hW
  obtain ⟨p, q, hA0, hV, rfl, hfz, hnd⟩ := hW
  have hA : DataW.TrodAll enc Try.prog W 0 (fun _ => true) true Try.f3.params.toList args.toList ds p := hA0
  rw [Try.params3] at hA hval
  obtain ⟨v0, vs0, d0, ds0, p0, q0, hargs, rfl, rfl, h0, r0⟩ := trodAll_cons hA
  obtain ⟨rfl, rfl, rfl⟩ := trodAll_nil r0
  obtain rfl : args = #[v0] := by cases args; simp_all
  obtain ⟨rfl, rfl⟩ := trodVars_none hV
  have lt0 : ∀ x ∈ p0, x.block < W.heap.size := by obtain ⟨m, hm⟩ := h0; exact DataW.trod_lt m _ _ _ hm
  obtain ⟨z0, w0, x0⟩ := openE (hval 0 22 v0 rfl rfl) h0
  clear hA0 hval0
  refine Calls.mono (law_calls law_h z0 trivial rfl (vs := [v0]) (replist_mk x0 replist_mk0)) fun e W' ⟨he, bel⟩ => ?_
  subst he
  exact ⟨_, rfl, _, _, _, [], _, [], hW', trodAll_mk1 (shut_bool Try.underlying4 _), (trodAll_cons_mk (Below.trod laidOut (by kernel_rfl) (of_decide_eq_true (by kernel_rfl)) h0 bel lt0) trodAll_mk0), rfl, bel.frame _, fun h => by cases h⟩

theorem over : Rows.revenueChecksRow.holds Try.pinned (OpenSpec.ofChange Rows.revenueChecksSpec) :=
  OpenClaim.holds_of_wide 3 Try.f3 rfl rfl rfl rfl rfl rfl rfl ⟨rfl, rfl, rfl, rfl, rfl⟩ rfl rfl rfl rfl rfl (by kernel_rfl) Try.func3 (by kernel_rfl)
    (of_decide_eq_true (by kernel_rfl)) (by unfold Func.isWrapper; first | (rw [if_pos (by decide +kernel)]; kernel_rfl) | (rw [if_neg (by decide +kernel)]; exact ⟨rfl, rfl⟩))
    (fun os started H enc _ => lifted os started H enc)

theorem proved : Rows.RevenueChecksSaid := over
end Go.Proofs.Ytbglmocgijlomaa.lawChecks
