/- NettingLeast: the payments settle all positions, and no fewer do. No condition. -/
import Derived.Test.YtdkkblcninogdaaArg
namespace Go.Proofs.Ytdkkblcninogdaa.lawLeast
open Go.ChangeShapes Go.WideShapes Go.ChangeAt Go.RowKit Go.Deep Go.Joins
set_option linter.unusedVariables false

/-! skiarea/skiarealaw37.NettingLeast -/
def lawIr : IFn := ⟨46, [.tmp 4],
  (.seq (.ops [
    ⟨(some 4), .mov, [.const (.bool false)], none⟩] false)
  (.seq (.seq (.ops [
    ⟨(some 6), .call 10, [], none⟩,
    ⟨(some 7), .not, [.tmp 6], none⟩] false)
  (.cond (.tmp 7)
    (.seq (.ops [
      ⟨(some 4), .mov, [.const (.bool false)], none⟩] false)
    .ret)
    .skip))
  (.seq (.seq (.ops [
    ⟨(some 8), .mov, [.tmp 0], none⟩,
    ⟨(some 9), .len, [.tmp 8], none⟩,
    ⟨(some 10), .cmp .gtr, [.tmp 9, .const (.int .i64 8)], none⟩,
    ⟨(some 11), .mov, [.tmp 10], none⟩,
    ⟨(some 12), .mov, [.tmp 0], (some (11, false))⟩,
    ⟨(some 13), .call 11, [.tmp 12], (some (11, false))⟩,
    ⟨(some 14), .cmp .neq, [.tmp 13, .const (.int .i64 0)], (some (11, false))⟩,
    ⟨(some 15), .pick, [.tmp 11, .const (.bool true), .tmp 14], none⟩,
    ⟨(some 16), .mov, [.tmp 15], none⟩,
    ⟨(some 17), .mov, [.tmp 1], (some (16, false))⟩,
    ⟨(some 18), .len, [.tmp 17], (some (16, false))⟩,
    ⟨(some 19), .cmp .gtr, [.tmp 18, .const (.int .i64 1000)], (some (16, false))⟩,
    ⟨(some 20), .pick, [.tmp 16, .const (.bool true), .tmp 19], none⟩] false)
  (.cond (.tmp 20)
    (.seq (.ops [
      ⟨(some 4), .mov, [.const (.bool true)], none⟩] false)
    .ret)
    .skip))
  (.seq (.ops [
    ⟨(some 21), .mov, [.tmp 0], none⟩,
    ⟨(some 22), .call 17, [.tmp 21], none⟩,
    ⟨(some 5), .mov, [.tmp 22], none⟩] false)
  (.seq (.ops [
    ⟨(some 23), .mov, [.tmp 5], none⟩,
    ⟨(some 24), .len, [.tmp 23], none⟩,
    ⟨(some 25), .mov, [.tmp 0], none⟩,
    ⟨(some 26), .call 15, [.tmp 25], none⟩,
    ⟨(some 27), .cmp .eql, [.tmp 24, .tmp 26], none⟩,
    ⟨(some 28), .mov, [.tmp 27], none⟩,
    ⟨(some 29), .mov, [.tmp 0], (some (28, true))⟩,
    ⟨(some 30), .mov, [.tmp 5], (some (28, true))⟩,
    ⟨(some 31), .call 13, [.tmp 29, .tmp 30], (some (28, true))⟩,
    ⟨(some 32), .pick, [.tmp 28, .tmp 31, .const (.bool false)], none⟩,
    ⟨(some 33), .mov, [.tmp 32], none⟩,
    ⟨(some 34), .mov, [.tmp 0], (some (33, true))⟩,
    ⟨(some 35), .mov, [.tmp 1], (some (33, true))⟩,
    ⟨(some 36), .call 13, [.tmp 34, .tmp 35], (some (33, true))⟩,
    ⟨(some 37), .not, [.tmp 36], (some (33, true))⟩,
    ⟨(some 38), .mov, [.tmp 37], (some (33, true))⟩,
    ⟨(some 39), .mov, [.tmp 1], (some (38, false))⟩,
    ⟨(some 40), .len, [.tmp 39], (some (38, false))⟩,
    ⟨(some 41), .mov, [.tmp 5], (some (38, false))⟩,
    ⟨(some 42), .len, [.tmp 41], (some (38, false))⟩,
    ⟨(some 43), .cmp .geq, [.tmp 40, .tmp 42], (some (38, false))⟩,
    ⟨(some 44), .pick, [.tmp 38, .const (.bool true), .tmp 43], (some (33, true))⟩,
    ⟨(some 45), .pick, [.tmp 33, .tmp 44, .const (.bool false)], none⟩,
    ⟨(some 4), .mov, [.tmp 45], none⟩] false)
  .ret)))))⟩
theorem lawLow : lowF Try.prog {} Try.f7 = some lawIr := by kernel_rfl
def lawS : Spec := spec (List Share × List Tfer) (fun p => [L 2 (p.1.map encS), L 3 (p.2.map encT)]) (fun _ => True) (fun _ => B true)
theorem lawV : fnV Try.prog lawIr lawS := by
  intro ⟨(l : List Share), (t : List Tfer)⟩ _
  show vc _ _ _ _ ⟨argEnv 0 [L 2 (l.map encS), L 3 (t.map encT)], [], 0⟩
  have htl : (t.map encT).length = t.length := List.length_map ..
  have hl : (l.map encS).length = l.length := List.length_map ..
  by_cases h8 : 8 < l.length
  · repeat' ((conv => whnf); first | (refine ⟨fun h => ?_, fun h => ?_⟩ <;> try (exfalso; first | omega | exact absurd h (by decide) | exact h rfl)) | (refine ⟨_, alive_h, (), trivial, leVs_of_eq rfl, .inl rfl, rfl, ?_⟩; show norm (B true) _) | exact ⟨[], rfl, trivial, rfl⟩ | fail)
  by_cases hr0 : rightF l = 0
  · have hr := right_iff.1 hr0
    have hrl := hr.len
    have hN := netF_spec hr
    have hn := hN.len
    have hnl : ((netF l).map encT).length = (netF l).length := List.length_map ..
    have hlb : leastF l ≤ 8 := by unfold leastF; have := List.length_filter_le (fun x : Share => decide (x.a ≠ 0)) l; have : (nzl l).length ≤ l.length := this; omega
    have hv : validB l (netF l) = true := validB_iff.2 hN.valid
    cases hw : validB l t with
    | true =>
      have hle := least_valid hr (validB_iff.1 hw)
      repeat' ((conv => whnf); first | (refine ⟨fun h => ?_, fun h => ?_⟩ <;> try (exfalso; first | omega | exact absurd h (by decide) | exact h rfl)) | (refine ⟨_, alive_h, (), trivial, leVs_of_eq rfl, .inl rfl, rfl, ?_⟩; show norm (B true) _) | (refine ⟨_, right_h, l, (by show l.length ≤ _; omega), leVs_of_eq rfl, .inl rfl, rfl, ?_⟩; show norm (I (rightF l)) _; rw [hr0]) | (refine ⟨_, net_h, l, hr, leVs_of_eq rfl, .inl rfl, rfl, ?_⟩; show norm (L 3 ((netF l).map encT)) _) | (refine ⟨_, least_h, l, hr, leVs_of_eq rfl, .inl rfl, rfl, ?_⟩; show norm (I ((leastF l : Nat) : Int)) _) | (refine ⟨_, valid_h, (l, netF l), (by show RightP l ∧ (netF l).length ≤ 1000; exact ⟨hr, by omega⟩), leVs_of_eq rfl, .inl rfl, rfl, ?_⟩; show norm (B (validB l (netF l))) _; rw [hv]) | (refine ⟨_, valid_h, (l, t), (by show RightP l ∧ t.length ≤ 1000; exact ⟨hr, by omega⟩), leVs_of_eq rfl, .inl rfl, rfl, ?_⟩; show norm (B (validB l t)) _; rw [hw]) | exact ⟨[], rfl, trivial, rfl⟩ | fail)
    | false =>
      repeat' ((conv => whnf); first | (refine ⟨fun h => ?_, fun h => ?_⟩ <;> try (exfalso; first | omega | exact absurd h (by decide) | exact h rfl)) | (refine ⟨_, alive_h, (), trivial, leVs_of_eq rfl, .inl rfl, rfl, ?_⟩; show norm (B true) _) | (refine ⟨_, right_h, l, (by show l.length ≤ _; omega), leVs_of_eq rfl, .inl rfl, rfl, ?_⟩; show norm (I (rightF l)) _; rw [hr0]) | (refine ⟨_, net_h, l, hr, leVs_of_eq rfl, .inl rfl, rfl, ?_⟩; show norm (L 3 ((netF l).map encT)) _) | (refine ⟨_, least_h, l, hr, leVs_of_eq rfl, .inl rfl, rfl, ?_⟩; show norm (I ((leastF l : Nat) : Int)) _) | (refine ⟨_, valid_h, (l, netF l), (by show RightP l ∧ (netF l).length ≤ 1000; exact ⟨hr, by omega⟩), leVs_of_eq rfl, .inl rfl, rfl, ?_⟩; show norm (B (validB l (netF l))) _; rw [hv]) | (refine ⟨_, valid_h, (l, t), (by show RightP l ∧ t.length ≤ 1000; exact ⟨hr, by omega⟩), leVs_of_eq rfl, .inl rfl, rfl, ?_⟩; show norm (B (validB l t)) _; rw [hw]) | exact ⟨[], rfl, trivial, rfl⟩ | fail)
  · repeat' ((conv => whnf); first | (refine ⟨_, right_h, l, (by show l.length ≤ _; omega), leVs_of_eq rfl, .inl rfl, rfl, ?_⟩; show norm (I (rightF l)) _) | (refine ⟨fun h => ?_, fun h => ?_⟩ <;> try (exfalso; first | omega | exact absurd h (by decide) | exact h rfl)) | (refine ⟨_, alive_h, (), trivial, leVs_of_eq rfl, .inl rfl, rfl, ?_⟩; show norm (B true) _) | exact ⟨[], rfl, trivial, rfl⟩ | fail)
theorem law_h : Holds Try.prog 7 lawS := holds_of mix Try.func7 lawLow (fun _ => rfl) lawV

/-! ### THE ROW's STEP -/
theorem own : ownKnob Try.prog.godebug = none := by kernel_rfl
theorem laidOut : laidOutB Try.prog = true := by kernel_rfl
set_option maxRecDepth 100000 in
theorem lifted (os : Os) (started : os.Started) (H : Type) (enc : TypeId × Value → H) :
    ReturnsInHanded {} Try.checked os 7 .any (Rows.nettingLeastSpec.pre6 enc Try.prog Try.f7 Rows.nettingLeastRow.domain false) (Rows.nettingLeastSpec.post enc Try.prog Try.f7 false true false false) := by
  refine returnsInHanded_of_change (C := Try.checked) own started (by kernel_rfl) Try.func7
    (ChangeSpec.witness6 (enc := enc) (C := Try.checked) false ⟨#[], #[.slice none 0 0, .slice none 0 0], []⟩ 8 (by kernel_rfl) (by kernel_rfl) (by kernel_rfl) (by kernel_rfl)) ?_
  intro W base args ds gs before hval0 hW hcnd _
  have hval : ∀ (j : Nat) t v, Try.f7.params[j]? = some t → args[j]? = some v → Value.okWide Try.prog W .any base t v := hval0
  have hW' := hW
  obtain ⟨p, q, hA0, hV, rfl, hfz, hnd⟩ := hW
  have hA : DataW.TrodAll enc Try.prog W 0 (fun _ => true) true Try.f7.params.toList args.toList ds p := hA0
  rw [Try.params7] at hA hval
  obtain ⟨v0, vs0, d0, ds0, p0, q0, hargs, rfl, rfl, h0, r0⟩ := trodAll_cons hA
  obtain ⟨v1, vs1, d1, ds1, p1, q1, rfl, rfl, rfl, h1, r1⟩ := trodAll_cons r0
  obtain ⟨rfl, rfl, rfl⟩ := trodAll_nil r1
  obtain rfl : args = #[v0, v1] := by cases args; simp_all
  obtain ⟨rfl, rfl⟩ := trodVars_none hV
  have lt0 : ∀ x ∈ p0, x.block < W.heap.size := by obtain ⟨m, hm⟩ := h0; exact DataW.trod_lt m _ _ _ hm
  obtain ⟨z0, w0, x0⟩ := openS (hval 0 22 v0 rfl rfl) h0
  have lt1 : ∀ x ∈ p1, x.block < W.heap.size := by obtain ⟨m, hm⟩ := h1; exact DataW.trod_lt m _ _ _ hm
  obtain ⟨z1, w1, x1⟩ := openT (hval 1 27 v1 rfl rfl) h1
  clear hA0 hval0
  refine Calls.mono (law_calls law_h (z0, z1) trivial rfl (vs := [v0, v1]) (replist_mk x0 (replist_mk x1 replist_mk0))) fun e W' ⟨he, bel⟩ => ?_
  subst he
  exact ⟨_, rfl, _, _, _, [], _, [], hW', trodAll_mk1 (shut_bool Try.underlying4 _), (trodAll_cons_mk (Below.trod laidOut (by kernel_rfl) (of_decide_eq_true (by kernel_rfl)) h0 bel lt0) (trodAll_cons_mk (Below.trod laidOut (by kernel_rfl) (of_decide_eq_true (by kernel_rfl)) h1 bel lt1) trodAll_mk0)), rfl, bel.frame _, fun h => by cases h⟩

theorem over : Rows.nettingLeastRow.holds Try.pinned (OpenSpec.ofChange Rows.nettingLeastSpec) :=
  OpenClaim.holds_of_wide 7 Try.f7 rfl rfl rfl rfl rfl rfl rfl ⟨rfl, rfl, rfl, rfl, rfl⟩ rfl rfl rfl rfl rfl (by kernel_rfl) Try.func7 (by kernel_rfl)
    (of_decide_eq_true (by kernel_rfl)) (by unfold Func.isWrapper; first | (rw [if_pos (by decide +kernel)]; kernel_rfl) | (rw [if_neg (by decide +kernel)]; exact ⟨rfl, rfl⟩))
    (fun os started H enc _ => lifted os started H enc)

theorem proved : Rows.NettingLeastSaid := over
end Go.Proofs.Ytdkkblcninogdaa.lawLeast
