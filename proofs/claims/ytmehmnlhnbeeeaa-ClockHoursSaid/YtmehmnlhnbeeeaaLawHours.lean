/- ClockHours: Right and In return the specified results. No condition. -/
import Derived.Test.YtmehmnlhnbeeeaaArg
namespace Go.Proofs.Ytmehmnlhnbeeeaa.lawHours
open Go.ChangeShapes Go.WideShapes Go.ChangeAt Go.RowKit Go.Deep Go.Joins
set_option linter.unusedVariables false

/-! skiarea/skiarealaw02.ClockHours -/
def lawIr : IFn := ⟨26, [.tmp 4],
  (.seq (.ops [
    ⟨(some 4), .mov, [.const (.bool false)], none⟩] false)
  (.seq (.seq (.ops [
    ⟨(some 5), .call 11, [], none⟩,
    ⟨(some 6), .not, [.tmp 5], none⟩] false)
  (.cond (.tmp 6)
    (.seq (.ops [
      ⟨(some 4), .mov, [.const (.bool false)], none⟩] false)
    .ret)
    .skip))
  (.seq (.ops [
    ⟨(some 7), .mov, [.tmp 0], none⟩,
    ⟨(some 8), .len, [.tmp 7], none⟩,
    ⟨(some 9), .cmp .gtr, [.tmp 8, .const (.int .i64 100)], none⟩,
    ⟨(some 10), .mov, [.tmp 9], none⟩,
    ⟨(some 11), .mov, [.tmp 0], (some (10, false))⟩,
    ⟨(some 12), .call 18, [.tmp 11], (some (10, false))⟩,
    ⟨(some 13), .mov, [.tmp 0], (some (10, false))⟩,
    ⟨(some 14), .call 19, [.tmp 13], (some (10, false))⟩,
    ⟨(some 15), .eqb false, [.tmp 12, .tmp 14], (some (10, false))⟩,
    ⟨(some 16), .mov, [.tmp 15], (some (10, false))⟩,
    ⟨(some 17), .mov, [.tmp 0], (some (16, true))⟩,
    ⟨(some 18), .mov, [.tmp 1], (some (16, true))⟩,
    ⟨(some 19), .call 20, [.tmp 17, .tmp 18], (some (16, true))⟩,
    ⟨(some 20), .mov, [.tmp 0], (some (16, true))⟩,
    ⟨(some 21), .mov, [.tmp 1], (some (16, true))⟩,
    ⟨(some 22), .call 21, [.tmp 20, .tmp 21], (some (16, true))⟩,
    ⟨(some 23), .eqb false, [.tmp 19, .tmp 22], (some (16, true))⟩,
    ⟨(some 24), .pick, [.tmp 16, .tmp 23, .const (.bool false)], (some (10, false))⟩,
    ⟨(some 25), .pick, [.tmp 10, .const (.bool true), .tmp 24], none⟩,
    ⟨(some 4), .mov, [.tmp 25], none⟩] false)
  .ret)))⟩
theorem lawLow : lowF Try.prog {} Try.f4 = some lawIr := by kernel_rfl
def lawS : Spec := spec (List Hours × Int) (fun p => [L 3 (p.1.map encH), I p.2]) (fun _ => True) (fun _ => B true)
theorem lawV : fnV Try.prog lawIr lawS := by
  intro ⟨(l : List Hours), (t : Int)⟩ _
  show vc _ _ _ ⟨argEnv 0 [L 3 (l.map encH), I t], [], 0⟩
  have hl : (l.map encH).length = l.length := List.length_map ..
  by_cases h100 : 100 < l.length
  · repeat' ((conv => whnf); first | (refine ⟨fun h => ?_, fun h => ?_⟩ <;> try (exfalso; first | omega | exact absurd h (by decide) | exact h rfl)) | (refine ⟨_, alive_h, (), trivial, leVs_of_eq rfl, .inl rfl, rfl, ?_⟩; show norm (B true) _) | exact ⟨[], rfl, trivial, rfl⟩ | fail)
  · have pl : l.length ≤ 9223372036854775807 := by omega
    cases hb1 : rightF l <;> cases hb2 : decide (inP l t)
    all_goals repeat' ((conv => whnf); first | (refine ⟨fun h => ?_, fun h => ?_⟩ <;> try (exfalso; first | omega | exact absurd h (by decide) | exact h rfl | exact absurd (h.symm.trans hb1) (by decide) | exact absurd (h.symm.trans hb2) (by decide))) | (refine ⟨_, alive_h, (), trivial, leVs_of_eq rfl, .inl rfl, rfl, ?_⟩; show norm (B true) _) | (refine ⟨_, right_h, l, pl, leVs_of_eq rfl, .inl rfl, rfl, ?_⟩; show norm (B (rightF l)) _) | (refine ⟨_, rright_h, l, pl, leVs_of_eq rfl, .inl rfl, rfl, ?_⟩; show norm (B (rightF l)) _) | (refine ⟨_, inn_h, (l, t), pl, leVs_of_eq rfl, .inl rfl, rfl, ?_⟩; show norm (B (decide (inP l t))) _) | (refine ⟨_, rin_h, (l, t), pl, leVs_of_eq rfl, .inl rfl, rfl, ?_⟩; show norm (B (decide (inP l t))) _) | exact ⟨[], rfl, trivial, rfl⟩ | fail)
theorem law_h : Holds Try.prog 4 lawS := holds_of mix Try.func4 lawLow (fun _ => rfl) lawV

/-! ### THE ROW's STEP -/
theorem own : ownKnob Try.prog.godebug = none := by kernel_rfl
theorem laidOut : laidOutB Try.prog = true := by kernel_rfl
set_option maxRecDepth 100000 in
theorem lifted (os : Os) (started : os.Started) (H : Type) (enc : TypeId × Value → H) :
    ReturnsInHanded {} Try.checked os 4 .any (Rows.clockHoursSpec.pre6 enc Try.prog Try.f4 Rows.clockHoursRow.domain false) (Rows.clockHoursSpec.post enc Try.prog Try.f4 false true false false) := by
  refine returnsInHanded_of_change (C := Try.checked) own started (by kernel_rfl) Try.func4
    (ChangeSpec.witness6 (enc := enc) (C := Try.checked) false ⟨#[], #[.slice none 0 0, .int .i64 0], []⟩ 8 (by kernel_rfl) (by kernel_rfl) (by kernel_rfl) (by kernel_rfl)) ?_
  intro W base args ds gs before hval0 hW hcnd _
  have hval : ∀ (j : Nat) t v, Try.f4.params[j]? = some t → args[j]? = some v → Value.okWide Try.prog W .any base t v := hval0
  have hW' := hW
  obtain ⟨p, q, hA0, hV, rfl, hfz, hnd⟩ := hW
  have hA : DataW.TrodAll enc Try.prog W 0 (fun _ => true) true Try.f4.params.toList args.toList ds p := hA0
  rw [Try.params4] at hA hval
  obtain ⟨v0, vs0, d0, ds0, p0, q0, hargs, rfl, rfl, h0, r0⟩ := trodAll_cons hA
  obtain ⟨v1, vs1, d1, ds1, p1, q1, rfl, rfl, rfl, h1, r1⟩ := trodAll_cons r0
  obtain ⟨rfl, rfl, rfl⟩ := trodAll_nil r1
  obtain rfl : args = #[v0, v1] := by cases args; simp_all
  obtain ⟨rfl, rfl⟩ := trodVars_none hV
  have lt0 : ∀ x ∈ p0, x.block < W.heap.size := by obtain ⟨m, hm⟩ := h0; exact DataW.trod_lt m _ _ _ hm
  obtain ⟨z0, w0, x0⟩ := openHours (hval 0 25 v0 rfl rfl) h0
  have lt1 : ∀ x ∈ p1, x.block < W.heap.size := by obtain ⟨m, hm⟩ := h1; exact DataW.trod_lt m _ _ _ hm
  obtain ⟨z1, w1, x1⟩ := open_i Try.underlying3 (hval 1 3 v1 rfl rfl) h1
  clear hA0 hval0
  refine Calls.mono (law_calls law_h (z0, z1) trivial rfl (vs := [v0, v1]) (replist_mk x0 (replist_mk x1 replist_mk0))) fun e W' ⟨he, bel⟩ => ?_
  subst he
  exact ⟨_, rfl, _, _, _, [], _, [], hW', trodAll_mk1 (shut_bool Try.underlying4 _), (trodAll_cons_mk (Below.trod laidOut (by kernel_rfl) (of_decide_eq_true (by kernel_rfl)) h0 bel lt0) (trodAll_cons_mk (Below.trod laidOut (by kernel_rfl) (of_decide_eq_true (by kernel_rfl)) h1 bel lt1) trodAll_mk0)), rfl, bel.frame _, fun h => by cases h⟩

theorem over : Rows.clockHoursRow.holds Try.pinned (OpenSpec.ofChange Rows.clockHoursSpec) :=
  OpenClaim.holds_of_wide 4 Try.f4 rfl rfl rfl rfl rfl rfl rfl ⟨rfl, rfl, rfl, rfl, rfl⟩ rfl rfl rfl rfl rfl (by kernel_rfl) Try.func4 (by kernel_rfl)
    (of_decide_eq_true (by kernel_rfl)) (by unfold Func.isWrapper; first | (rw [if_pos (by decide +kernel)]; kernel_rfl) | (rw [if_neg (by decide +kernel)]; exact ⟨rfl, rfl⟩))
    (fun os started H enc _ => lifted os started H enc)

theorem proved : Rows.ClockHoursSaid := over
end Go.Proofs.Ytmehmnlhnbeeeaa.lawHours
