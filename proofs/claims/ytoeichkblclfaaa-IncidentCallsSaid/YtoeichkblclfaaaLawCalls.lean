/- IncidentCalls: Report, Judge, Go and Move return the specified incidents, or errors. No condition. -/
import Derived.Test.YtoeichkblclfaaaArg
namespace Go.Proofs.Ytoeichkblclfaaa.lawCalls
open Go.ChangeShapes Go.WideShapes Go.ChangeAt Go.RowKit Go.Deep Go.Joins
set_option linter.unusedVariables false
set_option maxRecDepth 20000
theorem act_len {l : List Inc} (h : rightI l = 0) (o : Opr) : (actF l o).1.length ≤ 1000 := by
  have hl := len_of h
  have hc : ∀ (g : Inc → Inc × Int) (t : Int) (k : Nat), (chg g l k t).1.length ≤ 1000 := by
    intro g t k
    unfold chg
    split
    · simp
    · split
      · simp
      · simp only [List.length_set]; omega
  have hch : ∀ g id t, (changeF g l id t).1.length ≤ 1000 := by
    intro g id t
    unfold changeF
    split
    · simp
    · exact hc g t _
  unfold actF
  split
  · unfold reportF
    split
    · simp
    · simp; omega
  · split
    · exact hch _ _ _
    · split
      · exact hch _ _ _
      · exact hch _ _ _

/-! skiarea/skiarealaw57.IncidentCalls -/
def lawIr : IFn := ⟨34, [.tmp 4],
  (.seq (.ops [
    ⟨(some 3), .box, [.tmp 1], none⟩,
    ⟨(some 4), .mov, [.const (.bool false)], none⟩] false)
  (.seq (.seq (.ops [
    ⟨(some 9), .call 9, [], none⟩,
    ⟨(some 10), .not, [.tmp 9], none⟩] false)
  (.cond (.tmp 10)
    (.seq (.ops [
      ⟨(some 4), .mov, [.const (.bool false)], none⟩] false)
    .ret)
    .skip))
  (.seq (.seq (.ops [
    ⟨(some 11), .mov, [.tmp 0], none⟩,
    ⟨(some 12), .call 12, [.tmp 11], none⟩,
    ⟨(some 13), .not, [.tmp 12], none⟩] false)
  (.cond (.tmp 13)
    (.seq (.ops [
      ⟨(some 4), .mov, [.const (.bool true)], none⟩] false)
    .ret)
    .skip))
  (.seq (.ops [
    ⟨(some 15), .mov, [.tmp 0], none⟩,
    ⟨(some 16), .load 4 true, [.tmp 3], none⟩,
    ⟨(some 17), .call 13, [.tmp 15, .tmp 16], none⟩,
    ⟨(some 14), .mov, [.tmp 17], none⟩,
    ⟨(some 18), .extract 0, [.tmp 14], none⟩,
    ⟨(some 19), .extract 1, [.tmp 14], none⟩,
    ⟨(some 5), .mov, [.tmp 18], none⟩,
    ⟨(some 6), .mov, [.tmp 19], none⟩] false)
  (.seq (.ops [
    ⟨(some 21), .mov, [.tmp 0], none⟩,
    ⟨(some 22), .load 4 true, [.tmp 3], none⟩,
    ⟨(some 23), .call 14, [.tmp 21, .tmp 22], none⟩,
    ⟨(some 20), .mov, [.tmp 23], none⟩,
    ⟨(some 24), .extract 0, [.tmp 20], none⟩,
    ⟨(some 25), .extract 1, [.tmp 20], none⟩,
    ⟨(some 7), .mov, [.tmp 24], none⟩,
    ⟨(some 8), .mov, [.tmp 25], none⟩] false)
  (.seq (.ops [
    ⟨(some 26), .mov, [.tmp 5], none⟩,
    ⟨(some 27), .mov, [.tmp 7], none⟩,
    ⟨(some 28), .call 15, [.tmp 26, .tmp 27], none⟩,
    ⟨(some 29), .mov, [.tmp 28], none⟩,
    ⟨(some 30), .mov, [.tmp 6], (some (29, true))⟩,
    ⟨(some 31), .mov, [.tmp 8], (some (29, true))⟩,
    ⟨(some 32), .cmp .eql, [.tmp 30, .tmp 31], (some (29, true))⟩,
    ⟨(some 33), .pick, [.tmp 29, .tmp 32, .const (.bool false)], none⟩,
    ⟨(some 4), .mov, [.tmp 33], none⟩] false)
  .ret))))))⟩
theorem lawLow : lowF Try.prog {} Try.f4 = some lawIr := by kernel_rfl
def lawS : Spec := spec (List Inc × Opr) (fun p => [L 6 (p.1.map encI), aOp p.2]) (fun p => p.1.length ≤ 9223372036854775807) (fun _ => B true)
theorem lawV : fnV Try.prog lawIr lawS := by
  intro ⟨(l : List Inc), (o : Opr)⟩ (hl0 : l.length ≤ 9223372036854775807)
  show vc _ _ _ _ ⟨argEnv 0 [L 6 (l.map encI), aOp o], [], 0⟩
  by_cases h0 : rightI l = 0
  · have hlen := len_of h0
    obtain ⟨⟨a, e⟩, hA⟩ : ∃ r, actF l o = r := ⟨_, rfl⟩
    have hal : a.length ≤ 9223372036854775807 := by have h1 := act_len h0 o; rw [hA] at h1; dsimp only at h1; omega
    repeat' ((conv => whnf); first | (refine ⟨fun h => ?_, fun h => ?_⟩ <;> try (exfalso; first | omega | exact absurd h (by decide) | exact h rfl | exact absurd (show true = false from h) (by decide) | exact absurd (show false = true from h) (by decide))) | (refine ⟨_, alive_h, (), trivial, leVs_of_eq rfl, .inl rfl, rfl, ?_⟩; show norm (B true) _) | (refine ⟨_, lright_h, l, hl0, leVs_of_eq rfl, .inl rfl, rfl, ?_⟩; show norm (B (decide (rightI l = 0))) _; rw [decide_eq_true h0]) | (refine ⟨_, act_h, (l, o), hlen, leVs_of_eq rfl, .inl rfl, rfl, ?_⟩; show norm (resT (actF l o)) _; rw [hA]) | (refine ⟨_, specd_h, (l, o), h0, leVs_of_eq rfl, .inl rfl, rfl, ?_⟩; show norm (resT (actF l o)) _; rw [hA]) | (refine ⟨_, rsame_h, (a, a), hal, leVs_of_eq rfl, .inl rfl, rfl, ?_⟩; show norm (B (decide (a = a))) _; rw [decide_eq_true rfl]) | exact ⟨[], rfl, trivial, rfl⟩ | fail)
  · repeat' ((conv => whnf); first | (refine ⟨fun h => ?_, fun h => ?_⟩ <;> try (exfalso; first | omega | exact absurd h (by decide) | exact h rfl | exact absurd (show true = false from h) (by decide) | exact absurd (show false = true from h) (by decide))) | (refine ⟨_, alive_h, (), trivial, leVs_of_eq rfl, .inl rfl, rfl, ?_⟩; show norm (B true) _) | (refine ⟨_, lright_h, l, hl0, leVs_of_eq rfl, .inl rfl, rfl, ?_⟩; show norm (B (decide (rightI l = 0))) _; rw [decide_eq_false h0]) | exact ⟨[], rfl, trivial, rfl⟩ | fail)
theorem law_h : Holds Try.prog 4 lawS := holds_of mix Try.func4 lawLow (fun _ => rfl) lawV

/-! ### THE ROW's STEP -/
theorem own : ownKnob Try.prog.godebug = none := by kernel_rfl
theorem laidOut : laidOutB Try.prog = true := by kernel_rfl
set_option maxRecDepth 100000 in
theorem lifted (os : Os) (started : os.Started) (H : Type) (enc : TypeId × Value → H) :
    ReturnsInHanded {} Try.checked os 4 .any (Rows.incidentCallsSpec.pre6 enc Try.prog Try.f4 Rows.incidentCallsRow.domain false) (Rows.incidentCallsSpec.post enc Try.prog Try.f4 false true false false) := by
  refine returnsInHanded_of_change (C := Try.checked) own started (by kernel_rfl) Try.func4
    (ChangeSpec.witness6 (enc := enc) (C := Try.checked) false ⟨#[], #[.slice none 0 0, .agg #[.int .i64 0, .int .i64 0, .int .i64 0, .int .i64 0]], []⟩ 8 (by kernel_rfl) (by kernel_rfl) (by kernel_rfl) (by kernel_rfl)) ?_
  intro W base args ds gs before hval0 hW hcnd _
  have hval : ∀ (j : Nat) t v, Try.f4.params[j]? = some t → args[j]? = some v → Value.okWide Try.prog W .any base t v := hval0
  have hW' := hW
  obtain ⟨p, q, hA0, hV, rfl, hfz, hnd⟩ := hW
  have hA : DataW.TrodAll enc Try.prog W 0 (fun _ => true) true Try.f4.params.toList args.toList ds p := hA0
  rw [Try.params4] at hA hval
  obtain ⟨v0, vs0, d0, ds0, p0, q0, hargs, rfl, rfl, h0, r0⟩ := trodAll_cons hA
  obtain ⟨v1, vs1, d1, ds1, p1, q1, rfl, rfl, rfl, h1, r1⟩ := trodAll_cons r0
  obtain ⟨rfl, rfl, rfl⟩ := trodAll_nil r1
  obtain rfl : args = #[v0, v1] := by cases args; simp_all
  obtain ⟨rfl, rfl⟩ := trodVars_none hV
  have lt0 : ∀ x ∈ p0, x.block < W.heap.size := by obtain ⟨m, hm⟩ := h0; exact DataW.trod_lt m _ _ _ hm
  obtain ⟨z0, w0, x0⟩ := openLI (hval 0 22 v0 rfl rfl) h0
  have lt1 : ∀ x ∈ p1, x.block < W.heap.size := by obtain ⟨m, hm⟩ := h1; exact DataW.trod_lt m _ _ _ hm
  obtain ⟨z1, w1, x1⟩ := openOp (hval 1 28 v1 rfl rfl) h1
  clear hA0 hval0
  refine Calls.mono (law_calls law_h (z0, z1) w0.1 rfl (vs := [v0, v1]) (replist_mk x0 (replist_mk x1 replist_mk0))) fun e W' ⟨he, bel⟩ => ?_
  subst he
  exact ⟨_, rfl, _, _, _, [], _, [], hW', trodAll_mk1 (shut_bool Try.underlying4 _), (trodAll_cons_mk (Below.trod laidOut (by kernel_rfl) (of_decide_eq_true (by kernel_rfl)) h0 bel lt0) (trodAll_cons_mk (Below.trod laidOut (by kernel_rfl) (of_decide_eq_true (by kernel_rfl)) h1 bel lt1) trodAll_mk0)), rfl, bel.frame _, fun h => by cases h⟩

theorem over : Rows.incidentCallsRow.holds Try.pinned (OpenSpec.ofChange Rows.incidentCallsSpec) :=
  OpenClaim.holds_of_wide 4 Try.f4 rfl rfl rfl rfl rfl rfl rfl ⟨rfl, rfl, rfl, rfl, rfl⟩ rfl rfl rfl rfl rfl (by kernel_rfl) Try.func4 (by kernel_rfl)
    (of_decide_eq_true (by kernel_rfl)) (by unfold Func.isWrapper; first | (rw [if_pos (by decide +kernel)]; kernel_rfl) | (rw [if_neg (by decide +kernel)]; exact ⟨rfl, rfl⟩))
    (fun os started H enc _ => lifted os started H enc)

theorem proved : Rows.IncidentCallsSaid := over
end Go.Proofs.Ytoeichkblclfaaa.lawCalls
