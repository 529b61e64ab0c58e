/- SplitAdds: Add and Total return the specified shares and sum, or the error. No condition. -/
import Derived.Test.YtepacknnggnifaaArg
namespace Go.Proofs.Ytepacknnggnifaa.lawAdds
open Go.ChangeShapes Go.WideShapes Go.ChangeAt Go.RowKit Go.Deep Go.Joins
set_option linter.unusedVariables false

/-! skiarea/skiarealaw34.SplitAdds -/
def lawIr : IFn := ⟨63, [.tmp 4],
  (.seq (.ops [
    ⟨(some 4), .mov, [.const (.bool false)], none⟩] false)
  (.seq (.seq (.ops [
    ⟨(some 13), .call 10, [], none⟩,
    ⟨(some 14), .not, [.tmp 13], none⟩] false)
  (.cond (.tmp 14)
    (.seq (.ops [
      ⟨(some 4), .mov, [.const (.bool false)], none⟩] false)
    .ret)
    .skip))
  (.seq (.seq (.ops [
    ⟨(some 15), .mov, [.tmp 0], none⟩,
    ⟨(some 16), .len, [.tmp 15], none⟩,
    ⟨(some 17), .cmp .gtr, [.tmp 16, .const (.int .i64 100)], none⟩,
    ⟨(some 18), .mov, [.tmp 17], none⟩,
    ⟨(some 19), .mov, [.tmp 1], (some (18, false))⟩,
    ⟨(some 20), .len, [.tmp 19], (some (18, false))⟩,
    ⟨(some 21), .cmp .gtr, [.tmp 20, .const (.int .i64 100)], (some (18, false))⟩,
    ⟨(some 22), .pick, [.tmp 18, .const (.bool true), .tmp 21], none⟩] false)
  (.cond (.tmp 22)
    (.seq (.ops [
      ⟨(some 4), .mov, [.const (.bool true)], none⟩] false)
    .ret)
    .skip))
  (.seq (.ops [
    ⟨(some 24), .mov, [.tmp 0], none⟩,
    ⟨(some 25), .mov, [.tmp 1], none⟩,
    ⟨(some 26), .call 18, [.tmp 24, .tmp 25], none⟩,
    ⟨(some 23), .mov, [.tmp 26], none⟩,
    ⟨(some 27), .extract 0, [.tmp 23], none⟩,
    ⟨(some 28), .extract 1, [.tmp 23], none⟩,
    ⟨(some 5), .mov, [.tmp 27], none⟩,
    ⟨(some 6), .mov, [.tmp 28], none⟩] false)
  (.seq (.ops [
    ⟨(some 30), .mov, [.tmp 0], none⟩,
    ⟨(some 31), .mov, [.tmp 1], none⟩,
    ⟨(some 32), .call 19, [.tmp 30, .tmp 31], none⟩,
    ⟨(some 29), .mov, [.tmp 32], none⟩,
    ⟨(some 33), .extract 0, [.tmp 29], none⟩,
    ⟨(some 34), .extract 1, [.tmp 29], none⟩,
    ⟨(some 7), .mov, [.tmp 33], none⟩,
    ⟨(some 8), .mov, [.tmp 34], none⟩] false)
  (.seq (.ops [
    ⟨(some 36), .mov, [.tmp 0], none⟩,
    ⟨(some 37), .call 20, [.tmp 36], none⟩,
    ⟨(some 35), .mov, [.tmp 37], none⟩,
    ⟨(some 38), .extract 0, [.tmp 35], none⟩,
    ⟨(some 39), .extract 1, [.tmp 35], none⟩,
    ⟨(some 9), .mov, [.tmp 38], none⟩,
    ⟨(some 10), .mov, [.tmp 39], none⟩] false)
  (.seq (.ops [
    ⟨(some 41), .mov, [.tmp 0], none⟩,
    ⟨(some 42), .call 21, [.tmp 41], none⟩,
    ⟨(some 40), .mov, [.tmp 42], none⟩,
    ⟨(some 43), .extract 0, [.tmp 40], none⟩,
    ⟨(some 44), .extract 1, [.tmp 40], none⟩,
    ⟨(some 11), .mov, [.tmp 43], none⟩,
    ⟨(some 12), .mov, [.tmp 44], none⟩] false)
  (.seq (.ops [
    ⟨(some 45), .mov, [.tmp 5], none⟩,
    ⟨(some 46), .mov, [.tmp 7], none⟩,
    ⟨(some 47), .call 22, [.tmp 45, .tmp 46], none⟩,
    ⟨(some 48), .mov, [.tmp 47], none⟩,
    ⟨(some 49), .mov, [.tmp 6], (some (48, true))⟩,
    ⟨(some 50), .mov, [.tmp 8], (some (48, true))⟩,
    ⟨(some 51), .cmp .eql, [.tmp 49, .tmp 50], (some (48, true))⟩,
    ⟨(some 52), .pick, [.tmp 48, .tmp 51, .const (.bool false)], none⟩,
    ⟨(some 53), .mov, [.tmp 52], none⟩,
    ⟨(some 54), .mov, [.tmp 9], (some (53, true))⟩,
    ⟨(some 55), .mov, [.tmp 11], (some (53, true))⟩,
    ⟨(some 56), .cmp .eql, [.tmp 54, .tmp 55], (some (53, true))⟩,
    ⟨(some 57), .pick, [.tmp 53, .tmp 56, .const (.bool false)], none⟩,
    ⟨(some 58), .mov, [.tmp 57], none⟩,
    ⟨(some 59), .mov, [.tmp 10], (some (58, true))⟩,
    ⟨(some 60), .mov, [.tmp 12], (some (58, true))⟩,
    ⟨(some 61), .cmp .eql, [.tmp 59, .tmp 60], (some (58, true))⟩,
    ⟨(some 62), .pick, [.tmp 58, .tmp 61, .const (.bool false)], none⟩,
    ⟨(some 4), .mov, [.tmp 62], none⟩] false)
  .ret))))))))⟩
theorem lawLow : lowF Try.prog {} Try.f6 = some lawIr := by kernel_rfl
def lawS : Spec := spec (List Share × List Share) (fun p => [L 2 (p.1.map encS), L 2 (p.2.map encS)]) (fun p => (∀ x ∈ p.1, okO x) ∧ ∀ x ∈ p.2, okO x) (fun _ => B true)
theorem lawV : fnV Try.prog lawIr lawS := by
  intro ⟨(a : List Share), (b : List Share)⟩ hx
  obtain ⟨o1, o2⟩ : (∀ x ∈ a, okO x) ∧ ∀ x ∈ b, okO x := hx
  show vc _ _ _ _ ⟨argEnv 0 [L 2 (a.map encS), L 2 (b.map encS)], [], 0⟩
  have hl : (a.map encS).length = a.length := List.length_map ..
  have hl2 : (b.map encS).length = b.length := List.length_map ..
  by_cases h8 : 100 < a.length ∨ 100 < b.length
  · repeat' ((conv => whnf); first | (refine ⟨fun h => ?_, fun h => ?_⟩ <;> try (exfalso; first | omega | exact absurd h (by decide) | exact h rfl)) | (refine ⟨_, alive_h, (), trivial, leVs_of_eq rfl, .inl rfl, rfl, ?_⟩; show norm (B true) _) | exact ⟨[], rfl, trivial, rfl⟩ | fail)
  have hpre : (a.length ≤ 100000 ∧ b.length ≤ 100000) ∧ ∀ x ∈ a ++ b, okO x := ⟨by omega, fun x hx => (List.mem_append.1 hx).elim (o1 x) (o2 x)⟩
  have hpre2 : a.length ≤ 100000 ∧ b.length ≤ 100000 := by omega
  obtain ⟨P, hP⟩ : ∃ P, P = if addO [] (a ++ b) then fewL (a ++ b) else [] := ⟨_, rfl⟩
  obtain ⟨e, he⟩ : ∃ e : Int, e = if addO [] (a ++ b) then 0 else 12 := ⟨_, rfl⟩
  have hPl : P.length ≤ a.length + b.length := by
    rw [hP]
    split
    · have h1 : (fewL (a ++ b)).length ≤ (tabL (a ++ b)).length := List.length_filter_le _ _
      have h2 := tab_len (a ++ b)
      rw [List.length_append] at h2; omega
    · exact Nat.zero_le _
  have hPe : addT a b = .tup [L 2 (P.map encS), I e] := by rw [hP, he]; rfl
  cases ht : runO 0 (a.map fun x : Share => x.a) with
  | none => repeat' ((conv => whnf); first | (refine ⟨fun h => ?_, fun h => ?_⟩ <;> try (exfalso; first | omega | exact absurd h (by decide) | exact h rfl)) | (refine ⟨_, alive_h, (), trivial, leVs_of_eq rfl, .inl rfl, rfl, ?_⟩; show norm (B true) _) | (refine ⟨_, add_h, (a, b), hpre, leVs_of_eq rfl, .inl rfl, rfl, ?_⟩; show norm (addT a b) _; rw [hPe]) | (refine ⟨_, radd_h, (a, b), hpre2, leVs_of_eq rfl, .inl rfl, rfl, ?_⟩; show norm (addT a b) _; rw [hPe]) | (refine ⟨_, total_h, a, (by show a.length ≤ 1000000; omega), leVs_of_eq rfl, .inl rfl, rfl, ?_⟩; show norm (totT (runO 0 (a.map fun x : Share => x.a))) _; rw [ht]) | (refine ⟨_, rtotal_h, a, (by show a.length ≤ 1000000; omega), leVs_of_eq rfl, .inl rfl, rfl, ?_⟩; show norm (totT (runO 0 (a.map fun x : Share => x.a))) _; rw [ht]) | (refine ⟨_, sameS_h, (P, P), (by show (P).length ≤ 9223372036854775807; omega), leVs_of_eq rfl, .inl rfl, rfl, ?_⟩; show norm (B (decide (P = P))) _; rw [decide_eq_true rfl]) | exact ⟨[], rfl, trivial, rfl⟩ | fail)
  | some v => repeat' ((conv => whnf); first | (refine ⟨fun h => ?_, fun h => ?_⟩ <;> try (exfalso; first | omega | exact absurd h (by decide) | exact h rfl)) | (refine ⟨_, alive_h, (), trivial, leVs_of_eq rfl, .inl rfl, rfl, ?_⟩; show norm (B true) _) | (refine ⟨_, add_h, (a, b), hpre, leVs_of_eq rfl, .inl rfl, rfl, ?_⟩; show norm (addT a b) _; rw [hPe]) | (refine ⟨_, radd_h, (a, b), hpre2, leVs_of_eq rfl, .inl rfl, rfl, ?_⟩; show norm (addT a b) _; rw [hPe]) | (refine ⟨_, total_h, a, (by show a.length ≤ 1000000; omega), leVs_of_eq rfl, .inl rfl, rfl, ?_⟩; show norm (totT (runO 0 (a.map fun x : Share => x.a))) _; rw [ht]) | (refine ⟨_, rtotal_h, a, (by show a.length ≤ 1000000; omega), leVs_of_eq rfl, .inl rfl, rfl, ?_⟩; show norm (totT (runO 0 (a.map fun x : Share => x.a))) _; rw [ht]) | (refine ⟨_, sameS_h, (P, P), (by show (P).length ≤ 9223372036854775807; omega), leVs_of_eq rfl, .inl rfl, rfl, ?_⟩; show norm (B (decide (P = P))) _; rw [decide_eq_true rfl]) | exact ⟨[], rfl, trivial, rfl⟩ | fail)
theorem law_h : Holds Try.prog 6 lawS := holds_of mix Try.func6 lawLow (fun _ => rfl) lawV

/-! ### THE ROW's STEP -/
theorem own : ownKnob Try.prog.godebug = none := by kernel_rfl
theorem laidOut : laidOutB Try.prog = true := by kernel_rfl
set_option maxRecDepth 100000 in
theorem lifted (os : Os) (started : os.Started) (H : Type) (enc : TypeId × Value → H) :
    ReturnsInHanded {} Try.checked os 6 .any (Rows.splitAddsSpec.pre6 enc Try.prog Try.f6 Rows.splitAddsRow.domain false) (Rows.splitAddsSpec.post enc Try.prog Try.f6 false true false false) := by
  refine returnsInHanded_of_change (C := Try.checked) own started (by kernel_rfl) Try.func6
    (ChangeSpec.witness6 (enc := enc) (C := Try.checked) false ⟨#[], #[.slice none 0 0, .slice none 0 0], []⟩ 8 (by kernel_rfl) (by kernel_rfl) (by kernel_rfl) (by kernel_rfl)) ?_
  intro W base args ds gs before hval0 hW hcnd _
  have hval : ∀ (j : Nat) t v, Try.f6.params[j]? = some t → args[j]? = some v → Value.okWide Try.prog W .any base t v := hval0
  have hW' := hW
  obtain ⟨p, q, hA0, hV, rfl, hfz, hnd⟩ := hW
  have hA : DataW.TrodAll enc Try.prog W 0 (fun _ => true) true Try.f6.params.toList args.toList ds p := hA0
  rw [Try.params6] at hA hval
  obtain ⟨v0, vs0, d0, ds0, p0, q0, hargs, rfl, rfl, h0, r0⟩ := trodAll_cons hA
  obtain ⟨v1, vs1, d1, ds1, p1, q1, rfl, rfl, rfl, h1, r1⟩ := trodAll_cons r0
  obtain ⟨rfl, rfl, rfl⟩ := trodAll_nil r1
  obtain rfl : args = #[v0, v1] := by cases args; simp_all
  obtain ⟨rfl, rfl⟩ := trodVars_none hV
  have lt0 : ∀ x ∈ p0, x.block < W.heap.size := by obtain ⟨m, hm⟩ := h0; exact DataW.trod_lt m _ _ _ hm
  obtain ⟨z0, w0, x0⟩ := openS (hval 0 32 v0 rfl rfl) h0
  have lt1 : ∀ x ∈ p1, x.block < W.heap.size := by obtain ⟨m, hm⟩ := h1; exact DataW.trod_lt m _ _ _ hm
  obtain ⟨z1, w1, x1⟩ := openS (hval 1 32 v1 rfl rfl) h1
  clear hA0 hval0
  refine Calls.mono (law_calls law_h (z0, z1) ⟨fun x hx => wf_of (w0.2 x hx).1, fun x hx => wf_of (w1.2 x hx).1⟩ rfl (vs := [v0, v1]) (replist_mk x0 (replist_mk x1 replist_mk0))) fun e W' ⟨he, bel⟩ => ?_
  subst he
  exact ⟨_, rfl, _, _, _, [], _, [], hW', trodAll_mk1 (shut_bool Try.underlying4 _), (trodAll_cons_mk (Below.trod laidOut (by kernel_rfl) (of_decide_eq_true (by kernel_rfl)) h0 bel lt0) (trodAll_cons_mk (Below.trod laidOut (by kernel_rfl) (of_decide_eq_true (by kernel_rfl)) h1 bel lt1) trodAll_mk0)), rfl, bel.frame _, fun h => by cases h⟩

theorem over : Rows.splitAddsRow.holds Try.pinned (OpenSpec.ofChange Rows.splitAddsSpec) :=
  OpenClaim.holds_of_wide 6 Try.f6 rfl rfl rfl rfl rfl rfl rfl ⟨rfl, rfl, rfl, rfl, rfl⟩ rfl rfl rfl rfl rfl (by kernel_rfl) Try.func6 (by kernel_rfl)
    (of_decide_eq_true (by kernel_rfl)) (by unfold Func.isWrapper; first | (rw [if_pos (by decide +kernel)]; kernel_rfl) | (rw [if_neg (by decide +kernel)]; exact ⟨rfl, rfl⟩))
    (fun os started H enc _ => lifted os started H enc)

theorem proved : Rows.SplitAddsSaid := over
end Go.Proofs.Ytepacknnggnifaa.lawAdds
