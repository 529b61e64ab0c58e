/- SplitSplits: Split returns the specified parts or error. No condition. -/
import Derived.Test.YtepacknnggnifaaArg
namespace Go.Proofs.Ytepacknnggnifaa.lawSplits
open Go.ChangeShapes Go.WideShapes Go.ChangeAt Go.RowKit Go.Deep Go.Joins
set_option linter.unusedVariables false

/-! skiarea/skiarealaw34.SplitSplits -/
def lawIr : IFn := ⟨34, [.tmp 4],
  (.seq (.ops [
    ⟨(some 4), .mov, [.const (.bool false)], none⟩] false)
  (.seq (.seq (.ops [
    ⟨(some 9), .call 10, [], none⟩,
    ⟨(some 10), .not, [.tmp 9], none⟩] false)
  (.cond (.tmp 10)
    (.seq (.ops [
      ⟨(some 4), .mov, [.const (.bool false)], none⟩] false)
    .ret)
    .skip))
  (.seq (.seq (.ops [
    ⟨(some 11), .mov, [.tmp 1], none⟩,
    ⟨(some 12), .len, [.tmp 11], none⟩,
    ⟨(some 13), .cmp .gtr, [.tmp 12, .const (.int .i64 100)], none⟩] false)
  (.cond (.tmp 13)
    (.seq (.ops [
      ⟨(some 4), .mov, [.const (.bool true)], none⟩] false)
    .ret)
    .skip))
  (.seq (.ops [
    ⟨(some 15), .mov, [.tmp 0], none⟩,
    ⟨(some 16), .mov, [.tmp 1], none⟩,
    ⟨(some 17), .call 11, [.tmp 15, .tmp 16], none⟩,
    ⟨(some 14), .mov, [.tmp 17], none⟩,
    ⟨(some 18), .extract 0, [.tmp 14], none⟩,
    ⟨(some 19), .extract 1, [.tmp 14], none⟩,
    ⟨(some 5), .mov, [.tmp 18], none⟩,
    ⟨(some 6), .mov, [.tmp 19], none⟩] false)
  (.seq (.ops [
    ⟨(some 21), .mov, [.tmp 0], none⟩,
    ⟨(some 22), .mov, [.tmp 1], none⟩,
    ⟨(some 23), .call 12, [.tmp 21, .tmp 22], none⟩,
    ⟨(some 20), .mov, [.tmp 23], none⟩,
    ⟨(some 24), .extract 0, [.tmp 20], none⟩,
    ⟨(some 25), .extract 1, [.tmp 20], none⟩,
    ⟨(some 7), .mov, [.tmp 24], none⟩,
    ⟨(some 8), .mov, [.tmp 25], none⟩] false)
  (.seq (.ops [
    ⟨(some 26), .mov, [.tmp 5], none⟩,
    ⟨(some 27), .mov, [.tmp 7], none⟩,
    ⟨(some 28), .call 13, [.tmp 26, .tmp 27], none⟩,
    ⟨(some 29), .mov, [.tmp 28], none⟩,
    ⟨(some 30), .mov, [.tmp 6], (some (29, true))⟩,
    ⟨(some 31), .mov, [.tmp 8], (some (29, true))⟩,
    ⟨(some 32), .cmp .eql, [.tmp 30, .tmp 31], (some (29, true))⟩,
    ⟨(some 33), .pick, [.tmp 29, .tmp 32, .const (.bool false)], none⟩,
    ⟨(some 4), .mov, [.tmp 33], none⟩] false)
  .ret))))))⟩
theorem lawLow : lowF Try.prog {} Try.f3 = some lawIr := by kernel_rfl
def lawS : Spec := spec (Int × List Int) (fun p => [I p.1, L 1 (p.2.map e1)]) (fun _ => True) (fun _ => B true)
theorem lawV : fnV Try.prog lawIr lawS := by
  intro ⟨(a : Int), (ws : List Int)⟩ _
  show vc _ _ _ _ ⟨argEnv 0 [I a, L 1 (ws.map e1)], [], 0⟩
  have hl : (ws.map e1).length = ws.length := List.length_map ..
  by_cases h8 : 100 < ws.length
  · repeat' ((conv => whnf); first | (refine ⟨fun h => ?_, fun h => ?_⟩ <;> try (exfalso; first | omega | exact absurd h (by decide) | exact h rfl)) | (refine ⟨_, alive_h, (), trivial, leVs_of_eq rfl, .inl rfl, rfl, ?_⟩; show norm (B true) _) | exact ⟨[], rfl, trivial, rfl⟩ | fail)
  obtain ⟨P, hP⟩ : ∃ P, P = if chkF a ws = 0 then partsL a ws else [] := ⟨_, rfl⟩
  have hPl : P.length ≤ ws.length := by rw [hP]; split; rw [partsL_len]; exact Nat.le_refl _; exact Nat.zero_le _
  have hsp : splT a ws = .tup [L 1 (P.map e1), I (chkF a ws)] := by rw [hP]; rfl
  repeat' ((conv => whnf); first | (refine ⟨fun h => ?_, fun h => ?_⟩ <;> try (exfalso; first | omega | exact absurd h (by decide) | exact h rfl)) | (refine ⟨_, alive_h, (), trivial, leVs_of_eq rfl, .inl rfl, rfl, ?_⟩; show norm (B true) _) | (refine ⟨_, split_h, (a, ws), (by show ws.length ≤ 1000000; omega), leVs_of_eq rfl, .inl rfl, rfl, ?_⟩; show norm (splT a ws) _; rw [hsp]) | (refine ⟨_, rsplit_h, (a, ws), (by show ws.length ≤ 1000000; omega), leVs_of_eq rfl, .inl rfl, rfl, ?_⟩; show norm (splT a ws) _; rw [hsp]) | (refine ⟨_, same_h, (P, P), (by show (P).length ≤ 9223372036854775807; omega), leVs_of_eq rfl, .inl rfl, rfl, ?_⟩; show norm (B (decide (P = P))) _; rw [decide_eq_true rfl]) | exact ⟨[], rfl, trivial, rfl⟩ | fail)
theorem law_h : Holds Try.prog 3 lawS := holds_of mix Try.func3 lawLow (fun _ => rfl) lawV

/-! ### THE ROW's STEP -/
theorem own : ownKnob Try.prog.godebug = none := by kernel_rfl
theorem laidOut : laidOutB Try.prog = true := by kernel_rfl
set_option maxRecDepth 100000 in
theorem lifted (os : Os) (started : os.Started) (H : Type) (enc : TypeId × Value → H) :
    ReturnsInHanded {} Try.checked os 3 .any (Rows.splitSplitsSpec.pre6 enc Try.prog Try.f3 Rows.splitSplitsRow.domain false) (Rows.splitSplitsSpec.post enc Try.prog Try.f3 false true false false) := by
  refine returnsInHanded_of_change (C := Try.checked) own started (by kernel_rfl) Try.func3
    (ChangeSpec.witness6 (enc := enc) (C := Try.checked) false ⟨#[], #[.int .i64 0, .slice none 0 0], []⟩ 8 (by kernel_rfl) (by kernel_rfl) (by kernel_rfl) (by kernel_rfl)) ?_
  intro W base args ds gs before hval0 hW hcnd _
  have hval : ∀ (j : Nat) t v, Try.f3.params[j]? = some t → args[j]? = some v → Value.okWide Try.prog W .any base t v := hval0
  have hW' := hW
  obtain ⟨p, q, hA0, hV, rfl, hfz, hnd⟩ := hW
  have hA : DataW.TrodAll enc Try.prog W 0 (fun _ => true) true Try.f3.params.toList args.toList ds p := hA0
  rw [Try.params3] at hA hval
  obtain ⟨v0, vs0, d0, ds0, p0, q0, hargs, rfl, rfl, h0, r0⟩ := trodAll_cons hA
  obtain ⟨v1, vs1, d1, ds1, p1, q1, rfl, rfl, rfl, h1, r1⟩ := trodAll_cons r0
  obtain ⟨rfl, rfl, rfl⟩ := trodAll_nil r1
  obtain rfl : args = #[v0, v1] := by cases args; simp_all
  obtain ⟨rfl, rfl⟩ := trodVars_none hV
  have lt0 : ∀ x ∈ p0, x.block < W.heap.size := by obtain ⟨m, hm⟩ := h0; exact DataW.trod_lt m _ _ _ hm
  obtain ⟨z0, w0, x0⟩ := open_i Try.underlying3 (hval 0 3 v0 rfl rfl) h0
  have lt1 : ∀ x ∈ p1, x.block < W.heap.size := by obtain ⟨m, hm⟩ := h1; exact DataW.trod_lt m _ _ _ hm
  obtain ⟨z1, w1, x1⟩ := openI (hval 1 22 v1 rfl rfl) h1
  clear hA0 hval0
  refine Calls.mono (law_calls law_h (z0, z1) trivial rfl (vs := [v0, v1]) (replist_mk x0 (replist_mk x1 replist_mk0))) fun e W' ⟨he, bel⟩ => ?_
  subst he
  exact ⟨_, rfl, _, _, _, [], _, [], hW', trodAll_mk1 (shut_bool Try.underlying4 _), (trodAll_cons_mk (Below.trod laidOut (by kernel_rfl) (of_decide_eq_true (by kernel_rfl)) h0 bel lt0) (trodAll_cons_mk (Below.trod laidOut (by kernel_rfl) (of_decide_eq_true (by kernel_rfl)) h1 bel lt1) trodAll_mk0)), rfl, bel.frame _, fun h => by cases h⟩

theorem over : Rows.splitSplitsRow.holds Try.pinned (OpenSpec.ofChange Rows.splitSplitsSpec) :=
  OpenClaim.holds_of_wide 3 Try.f3 rfl rfl rfl rfl rfl rfl rfl ⟨rfl, rfl, rfl, rfl, rfl⟩ rfl rfl rfl rfl rfl (by kernel_rfl) Try.func3 (by kernel_rfl)
    (of_decide_eq_true (by kernel_rfl)) (by unfold Func.isWrapper; first | (rw [if_pos (by decide +kernel)]; kernel_rfl) | (rw [if_neg (by decide +kernel)]; exact ⟨rfl, rfl⟩))
    (fun os started H enc _ => lifted os started H enc)

theorem proved : Rows.SplitSplitsSaid := over
end Go.Proofs.Ytepacknnggnifaa.lawSplits
