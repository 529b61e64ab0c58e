/- IncidentRights: Right returns the specified error of any list of at most 100 incidents. No condition. -/
import Derived.Test.YtoeichkblclfaaaArg
namespace Go.Proofs.Ytoeichkblclfaaa.lawRights
open Go.ChangeShapes Go.WideShapes Go.ChangeAt Go.RowKit Go.Deep Go.Joins
set_option linter.unusedVariables false
set_option maxRecDepth 20000

/-! skiarea/skiarealaw57.IncidentRights -/
def lawIr : IFn := ⟨15, [.tmp 2],
  (.seq (.ops [
    ⟨(some 2), .mov, [.const (.bool false)], none⟩] false)
  (.seq (.seq (.ops [
    ⟨(some 3), .call 9, [], none⟩,
    ⟨(some 4), .not, [.tmp 3], none⟩] false)
  (.cond (.tmp 4)
    (.seq (.ops [
      ⟨(some 2), .mov, [.const (.bool false)], none⟩] false)
    .ret)
    .skip))
  (.seq (.ops [
    ⟨(some 5), .mov, [.tmp 0], none⟩,
    ⟨(some 6), .len, [.tmp 5], none⟩,
    ⟨(some 7), .cmp .gtr, [.tmp 6, .const (.int .i64 100)], none⟩,
    ⟨(some 8), .mov, [.tmp 7], none⟩,
    ⟨(some 9), .mov, [.tmp 0], (some (8, false))⟩,
    ⟨(some 10), .call 10, [.tmp 9], (some (8, false))⟩,
    ⟨(some 11), .mov, [.tmp 0], (some (8, false))⟩,
    ⟨(some 12), .call 11, [.tmp 11], (some (8, false))⟩,
    ⟨(some 13), .cmp .eql, [.tmp 10, .tmp 12], (some (8, false))⟩,
    ⟨(some 14), .pick, [.tmp 8, .const (.bool true), .tmp 13], none⟩,
    ⟨(some 2), .mov, [.tmp 14], none⟩] false)
  .ret)))⟩
theorem lawLow : lowF Try.prog {} Try.f3 = some lawIr := by kernel_rfl
def lawS : Spec := spec (List Inc) (fun l => [L 6 (l.map encI)]) (fun l => l.length ≤ 9223372036854775807) (fun _ => B true)
theorem lawV : fnV Try.prog lawIr lawS := by
  intro (l : List Inc) (hl0 : l.length ≤ 9223372036854775807)
  show vc _ _ _ _ ⟨argEnv 0 [L 6 (l.map encI)], [], 0⟩
  obtain ⟨e, hE⟩ : ∃ e, rightI l = e := ⟨_, rfl⟩
  repeat' ((conv => whnf); first | (refine ⟨fun h => ?_, fun h => ?_⟩ <;> try (exfalso; first | omega | exact absurd h (by decide) | exact h rfl | exact absurd (show true = false from h) (by decide) | exact absurd (show false = true from h) (by decide))) | (refine ⟨_, alive_h, (), trivial, leVs_of_eq rfl, .inl rfl, rfl, ?_⟩; show norm (B true) _) | (refine ⟨_, right_h, l, hl0, leVs_of_eq rfl, .inl rfl, rfl, ?_⟩; show norm (I (rightI l)) _; rw [hE]) | (refine ⟨_, rright_h, l, hl0, leVs_of_eq rfl, .inl rfl, rfl, ?_⟩; show norm (I (rightI l)) _; rw [hE]) | exact ⟨[], rfl, trivial, rfl⟩ | fail)
theorem law_h : Holds Try.prog 3 lawS := holds_of mix Try.func3 lawLow (fun _ => rfl) lawV

/-! ### THE ROW's STEP -/
theorem own : ownKnob Try.prog.godebug = none := by kernel_rfl
theorem laidOut : laidOutB Try.prog = true := by kernel_rfl
set_option maxRecDepth 100000 in
theorem lifted (os : Os) (started : os.Started) (H : Type) (enc : TypeId × Value → H) :
    ReturnsInHanded {} Try.checked os 3 .any (Rows.incidentRightsSpec.pre6 enc Try.prog Try.f3 Rows.incidentRightsRow.domain false) (Rows.incidentRightsSpec.post enc Try.prog Try.f3 false true false false) := by
  refine returnsInHanded_of_change (C := Try.checked) own started (by kernel_rfl) Try.func3
    (ChangeSpec.witness6 (enc := enc) (C := Try.checked) false ⟨#[], #[.slice none 0 0], []⟩ 8 (by kernel_rfl) (by kernel_rfl) (by kernel_rfl) (by kernel_rfl)) ?_
  intro W base args ds gs before hval0 hW hcnd _
  have hval : ∀ (j : Nat) t v, Try.f3.params[j]? = some t → args[j]? = some v → Value.okWide Try.prog W .any base t v := hval0
  have hW' := hW
  obtain ⟨p, q, hA0, hV, rfl, hfz, hnd⟩ := hW
  have hA : DataW.TrodAll enc Try.prog W 0 (fun _ => true) true Try.f3.params.toList args.toList ds p := hA0
  rw [Try.params3] at hA hval
  obtain ⟨v0, vs0, d0, ds0, p0, q0, hargs, rfl, rfl, h0, r0⟩ := trodAll_cons hA
  obtain ⟨rfl, rfl, rfl⟩ := trodAll_nil r0
  obtain rfl : args = #[v0] := by cases args; simp_all
  obtain ⟨rfl, rfl⟩ := trodVars_none hV
  have lt0 : ∀ x ∈ p0, x.block < W.heap.size := by obtain ⟨m, hm⟩ := h0; exact DataW.trod_lt m _ _ _ hm
  obtain ⟨z0, w0, x0⟩ := openLI (hval 0 22 v0 rfl rfl) h0
  clear hA0 hval0
  refine Calls.mono (law_calls law_h z0 w0.1 rfl (vs := [v0]) (replist_mk x0 replist_mk0)) fun e W' ⟨he, bel⟩ => ?_
  subst he
  exact ⟨_, rfl, _, _, _, [], _, [], hW', trodAll_mk1 (shut_bool Try.underlying4 _), (trodAll_cons_mk (Below.trod laidOut (by kernel_rfl) (of_decide_eq_true (by kernel_rfl)) h0 bel lt0) trodAll_mk0), rfl, bel.frame _, fun h => by cases h⟩

theorem over : Rows.incidentRightsRow.holds Try.pinned (OpenSpec.ofChange Rows.incidentRightsSpec) :=
  OpenClaim.holds_of_wide 3 Try.f3 rfl rfl rfl rfl rfl rfl rfl ⟨rfl, rfl, rfl, rfl, rfl⟩ rfl rfl rfl rfl rfl (by kernel_rfl) Try.func3 (by kernel_rfl)
    (of_decide_eq_true (by kernel_rfl)) (by unfold Func.isWrapper; first | (rw [if_pos (by decide +kernel)]; kernel_rfl) | (rw [if_neg (by decide +kernel)]; exact ⟨rfl, rfl⟩))
    (fun os started H enc _ => lifted os started H enc)

theorem proved : Rows.IncidentRightsSaid := over
end Go.Proofs.Ytoeichkblclfaaa.lawRights
