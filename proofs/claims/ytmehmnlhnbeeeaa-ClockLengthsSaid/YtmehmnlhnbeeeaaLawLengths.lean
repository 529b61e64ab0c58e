/- ClockLengths: the lengths of two sets together are those of both together and of what they have in common. No condition. -/
import Derived.Test.YtmehmnlhnbeeeaaArg
import Derived.Test.YtmehmnlhnbeeeaaP6
namespace Go.Proofs.Ytmehmnlhnbeeeaa.lawLengths
open Go.ChangeShapes Go.WideShapes Go.ChangeAt Go.RowKit Go.Deep Go.Joins
set_option linter.unusedVariables false

/-! skiarea/skiarealaw02.ClockLengths -/
def lawIr : IFn := ⟨55, [.tmp 4],
  (.seq (.ops [
    ⟨(some 4), .mov, [.const (.bool false)], none⟩] false)
  (.seq (.seq (.ops [
    ⟨(some 7), .call 11, [], none⟩,
    ⟨(some 8), .not, [.tmp 7], none⟩] false)
  (.cond (.tmp 8)
    (.seq (.ops [
      ⟨(some 4), .mov, [.const (.bool false)], none⟩] false)
    .ret)
    .skip))
  (.seq (.seq (.ops [
    ⟨(some 9), .mov, [.tmp 0], none⟩,
    ⟨(some 10), .call 24, [.tmp 9], none⟩,
    ⟨(some 11), .not, [.tmp 10], none⟩,
    ⟨(some 12), .mov, [.tmp 11], none⟩,
    ⟨(some 13), .mov, [.tmp 1], (some (12, false))⟩,
    ⟨(some 14), .call 24, [.tmp 13], (some (12, false))⟩,
    ⟨(some 15), .not, [.tmp 14], (some (12, false))⟩,
    ⟨(some 16), .pick, [.tmp 12, .const (.bool true), .tmp 15], none⟩] false)
  (.cond (.tmp 16)
    (.seq (.ops [
      ⟨(some 4), .mov, [.const (.bool true)], none⟩] false)
    .ret)
    .skip))
  (.seq (.ops [
    ⟨(some 5), .mov, [.const (.slice none 0 0)], none⟩] false)
  (.seq (.ops [
    ⟨(some 17), .mov, [.tmp 5], none⟩,
    ⟨(some 18), .mov, [.tmp 0], none⟩,
    ⟨(some 19), .append 39 2 16, [.tmp 17, .tmp 18], none⟩,
    ⟨(some 5), .mov, [.tmp 19], none⟩] false)
  (.seq (.ops [
    ⟨(some 20), .mov, [.tmp 5], none⟩,
    ⟨(some 21), .mov, [.tmp 1], none⟩,
    ⟨(some 22), .append 39 2 16, [.tmp 20, .tmp 21], none⟩,
    ⟨(some 5), .mov, [.tmp 22], none⟩] false)
  (.seq (.ops [
    ⟨(some 23), .mov, [.tmp 0], none⟩,
    ⟨(some 24), .mov, [.tmp 0], none⟩,
    ⟨(some 25), .mov, [.tmp 1], none⟩,
    ⟨(some 26), .call 26, [.tmp 24, .tmp 25], none⟩,
    ⟨(some 27), .call 26, [.tmp 23, .tmp 26], none⟩,
    ⟨(some 6), .mov, [.tmp 27], none⟩] false)
  (.seq (.ops [
    ⟨(some 28), .mov, [.tmp 0], none⟩,
    ⟨(some 29), .call 28, [.tmp 28], none⟩,
    ⟨(some 30), .mov, [.tmp 1], none⟩,
    ⟨(some 31), .call 28, [.tmp 30], none⟩,
    ⟨(some 32), .bin .add .i64 false, [.tmp 29, .tmp 31], none⟩,
    ⟨(some 33), .mov, [.tmp 5], none⟩,
    ⟨(some 34), .call 28, [.tmp 33], none⟩,
    ⟨(some 35), .mov, [.tmp 6], none⟩,
    ⟨(some 36), .call 28, [.tmp 35], none⟩,
    ⟨(some 37), .bin .add .i64 false, [.tmp 34, .tmp 36], none⟩,
    ⟨(some 38), .cmp .eql, [.tmp 32, .tmp 37], none⟩,
    ⟨(some 39), .mov, [.tmp 38], none⟩,
    ⟨(some 40), .mov, [.tmp 6], (some (39, true))⟩,
    ⟨(some 41), .mov, [.tmp 1], (some (39, true))⟩,
    ⟨(some 42), .mov, [.tmp 1], (some (39, true))⟩,
    ⟨(some 43), .mov, [.tmp 0], (some (39, true))⟩,
    ⟨(some 44), .call 26, [.tmp 42, .tmp 43], (some (39, true))⟩,
    ⟨(some 45), .call 26, [.tmp 41, .tmp 44], (some (39, true))⟩,
    ⟨(some 46), .call 25, [.tmp 40, .tmp 45], (some (39, true))⟩,
    ⟨(some 47), .pick, [.tmp 39, .tmp 46, .const (.bool false)], none⟩,
    ⟨(some 48), .mov, [.tmp 47], none⟩,
    ⟨(some 49), .mov, [.tmp 0], (some (48, true))⟩,
    ⟨(some 50), .call 28, [.tmp 49], (some (48, true))⟩,
    ⟨(some 51), .mov, [.tmp 6], (some (48, true))⟩,
    ⟨(some 52), .call 28, [.tmp 51], (some (48, true))⟩,
    ⟨(some 53), .cmp .geq, [.tmp 50, .tmp 52], (some (48, true))⟩,
    ⟨(some 54), .pick, [.tmp 48, .tmp 53, .const (.bool false)], none⟩,
    ⟨(some 4), .mov, [.tmp 54], none⟩] false)
  .ret))))))))⟩
theorem lawLow : lowF Try.prog {} Try.f7 = some lawIr := by kernel_rfl
def lawS : Spec := spec (List Ivl × List Ivl) (fun p => [L 2 (p.1.map encV), L 2 (p.2.map encV)]) (fun _ => True) (fun _ => B true)
theorem lawV : fnV Try.prog lawIr lawS := by
  intro ⟨(a : List Ivl), (b : List Ivl)⟩ _
  show vc _ _ _ ⟨argEnv 0 [L 2 (a.map encV), L 2 (b.map encV)], [], 0⟩
  by_cases ha : a.length ≤ 60
  · by_cases hb : b.length ≤ 60
    · have pa : a.length ≤ 1000000 := by omega
      have pb : b.length ≤ 1000000 := by omega
      have p1 : (minusF a b).length ≤ 1000000 := by have := minus_few ha hb; omega
      have p2 : (minusF b a).length ≤ 1000000 := by have := minus_few hb ha; omega
      have p3 := common_few ha hb
      have p4 : (minusF a (minusF a b)).length ≤ 9223372036854775807 := by omega
      have p5 : (a ++ b).length ≤ 1000000 := by rw [List.length_append]; omega
      have hla : (a.map encV).length = a.length := List.length_map ..
      have hlb : (b.map encV).length = b.length := List.length_map ..
      have hsw : L 2 ((minusF b (minusF b a)).map encV) = L 2 ((minusF a (minusF a b)).map encV) := by rw [common_swap]
      obtain ⟨hs1, hs2⟩ := len_sum a b
      have hba := len_bd a
      have hbb := len_bd b
      have hbc := len_bd (minusF a (minusF a b))
      have hbd := len_bd (a ++ b)
      repeat' ((conv => whnf); first | (refine ⟨fun h => ?_, fun h => ?_⟩ <;> try (exfalso; first | omega | exact absurd h (by decide) | exact h rfl)) | (refine ⟨_, alive_h, (), trivial, leVs_of_eq rfl, .inl rfl, rfl, ?_⟩; show norm (B true) _) | (refine ⟨_, few_h, a, trivial, leVs_of_eq rfl, .inl rfl, rfl, ?_⟩; show norm (B (decide (a.length ≤ 60))) _; rw [decide_eq_true ha]) | (refine ⟨_, few_h, b, trivial, leVs_of_eq rfl, .inl rfl, rfl, ?_⟩; show norm (B (decide (b.length ≤ 60))) _; rw [decide_eq_true hb]) | (refine ⟨_, minus_h, (a, b), ⟨pa, pb⟩, leVs_of_eq rfl, .inl rfl, rfl, ?_⟩; show norm (L 2 ((minusF a b).map encV)) _) | (refine ⟨_, minus_h, (b, a), ⟨pb, pa⟩, leVs_of_eq rfl, .inl rfl, rfl, ?_⟩; show norm (L 2 ((minusF b a).map encV)) _) | (refine ⟨_, minus_h, (a, (minusF a b)), ⟨pa, p1⟩, leVs_of_eq rfl, .inl rfl, rfl, ?_⟩; show norm (L 2 ((minusF a (minusF a b)).map encV)) _) | (refine ⟨_, minus_h, (b, (minusF b a)), ⟨pb, p2⟩, leVs_of_eq rfl, .inl rfl, rfl, ?_⟩; show norm (L 2 ((minusF b (minusF b a)).map encV)) _; rw [hsw]) | (refine ⟨_, length_h, a, pa, leVs_of_eq rfl, .inl rfl, rfl, ?_⟩; show norm (I (lenF a)) _) | (refine ⟨_, length_h, b, pb, leVs_of_eq rfl, .inl rfl, rfl, ?_⟩; show norm (I (lenF b)) _) | (refine ⟨_, length_h, (minusF a (minusF a b)), p3, leVs_of_eq rfl, .inl rfl, rfl, ?_⟩; show norm (I (lenF (minusF a (minusF a b)))) _) | (refine ⟨_, length_h, (a ++ b), p5, leVs_of_eq (by rw [show (lengthS.args (a ++ b)) = [L 2 ((a ++ b).map encV)] from rfl, List.map_append]; rfl), .inr rfl, rfl, ?_⟩; show norm (I (lenF (a ++ b))) _) | (refine ⟨_, same_h, (minusF a (minusF a b), minusF a (minusF a b)), p4, leVs_of_eq rfl, .inl rfl, rfl, ?_⟩; show norm (B (decide (_ = _))) _; rw [decide_eq_true rfl]) | refine ⟨⟨by omega, by omega⟩, ?_⟩ | exact ⟨[], rfl, trivial, rfl⟩ | fail)
    · repeat' ((conv => whnf); first | (refine ⟨fun h => ?_, fun h => ?_⟩ <;> try (exfalso; first | omega | exact absurd h (by decide) | exact h rfl)) | (refine ⟨_, alive_h, (), trivial, leVs_of_eq rfl, .inl rfl, rfl, ?_⟩; show norm (B true) _) | (refine ⟨_, few_h, a, trivial, leVs_of_eq rfl, .inl rfl, rfl, ?_⟩; show norm (B (decide (a.length ≤ 60))) _; rw [decide_eq_true ha]) | (refine ⟨_, few_h, b, trivial, leVs_of_eq rfl, .inl rfl, rfl, ?_⟩; show norm (B (decide (b.length ≤ 60))) _; rw [decide_eq_false hb]) | exact ⟨[], rfl, trivial, rfl⟩ | fail)
  · repeat' ((conv => whnf); first | (refine ⟨fun h => ?_, fun h => ?_⟩ <;> try (exfalso; first | omega | exact absurd h (by decide) | exact h rfl)) | (refine ⟨_, alive_h, (), trivial, leVs_of_eq rfl, .inl rfl, rfl, ?_⟩; show norm (B true) _) | (refine ⟨_, few_h, a, trivial, leVs_of_eq rfl, .inl rfl, rfl, ?_⟩; show norm (B (decide (a.length ≤ 60))) _; rw [decide_eq_false ha]) | exact ⟨[], rfl, trivial, rfl⟩ | fail)
theorem law_h : Holds Try.prog 7 lawS := holds_of mix Try.func7 lawLow (fun _ => rfl) lawV

/-! ### THE ROW's STEP -/
theorem own : ownKnob Try.prog.godebug = none := by kernel_rfl
theorem laidOut : laidOutB Try.prog = true := by kernel_rfl
set_option maxRecDepth 100000 in
theorem lifted (os : Os) (started : os.Started) (H : Type) (enc : TypeId × Value → H) :
    ReturnsInHanded {} Try.checked os 7 .any (Rows.clockLengthsSpec.pre6 enc Try.prog Try.f7 Rows.clockLengthsRow.domain false) (Rows.clockLengthsSpec.post enc Try.prog Try.f7 false true false false) := by
  refine returnsInHanded_of_change (C := Try.checked) own started (by kernel_rfl) Try.func7
    (ChangeSpec.witness6 (enc := enc) (C := Try.checked) false ⟨#[], #[.slice none 0 0, .slice none 0 0], []⟩ 8 (by kernel_rfl) (by kernel_rfl) (by kernel_rfl) (by kernel_rfl)) ?_
  intro W base args ds gs before hval0 hW hcnd _
  have hval : ∀ (j : Nat) t v, Try.f7.params[j]? = some t → args[j]? = some v → Value.okWide Try.prog W .any base t v := hval0
  have hW' := hW
  obtain ⟨p, q, hA0, hV, rfl, hfz, hnd⟩ := hW
  have hA : DataW.TrodAll enc Try.prog W 0 (fun _ => true) true Try.f7.params.toList args.toList ds p := hA0
  rw [Try.params7] at hA hval
  obtain ⟨v0, vs0, d0, ds0, p0, q0, hargs, rfl, rfl, h0, r0⟩ := trodAll_cons hA
  obtain ⟨v1, vs1, d1, ds1, p1, q1, rfl, rfl, rfl, h1, r1⟩ := trodAll_cons r0
  obtain ⟨rfl, rfl, rfl⟩ := trodAll_nil r1
  obtain rfl : args = #[v0, v1] := by cases args; simp_all
  obtain ⟨rfl, rfl⟩ := trodVars_none hV
  have lt0 : ∀ x ∈ p0, x.block < W.heap.size := by obtain ⟨m, hm⟩ := h0; exact DataW.trod_lt m _ _ _ hm
  obtain ⟨z0, w0, x0⟩ := openIvls (hval 0 30 v0 rfl rfl) h0
  have lt1 : ∀ x ∈ p1, x.block < W.heap.size := by obtain ⟨m, hm⟩ := h1; exact DataW.trod_lt m _ _ _ hm
  obtain ⟨z1, w1, x1⟩ := openIvls (hval 1 30 v1 rfl rfl) h1
  clear hA0 hval0
  refine Calls.mono (law_calls law_h (z0, z1) trivial rfl (vs := [v0, v1]) (replist_mk x0 (replist_mk x1 replist_mk0))) fun e W' ⟨he, bel⟩ => ?_
  subst he
  exact ⟨_, rfl, _, _, _, [], _, [], hW', trodAll_mk1 (shut_bool Try.underlying4 _), (trodAll_cons_mk (Below.trod laidOut (by kernel_rfl) (of_decide_eq_true (by kernel_rfl)) h0 bel lt0) (trodAll_cons_mk (Below.trod laidOut (by kernel_rfl) (of_decide_eq_true (by kernel_rfl)) h1 bel lt1) trodAll_mk0)), rfl, bel.frame _, fun h => by cases h⟩

theorem over : Rows.clockLengthsRow.holds Try.pinned (OpenSpec.ofChange Rows.clockLengthsSpec) :=
  OpenClaim.holds_of_wide 7 Try.f7 rfl rfl rfl rfl rfl rfl rfl ⟨rfl, rfl, rfl, rfl, rfl⟩ rfl rfl rfl rfl rfl (by kernel_rfl) Try.func7 (by kernel_rfl)
    (of_decide_eq_true (by kernel_rfl)) (by unfold Func.isWrapper; first | (rw [if_pos (by decide +kernel)]; kernel_rfl) | (rw [if_neg (by decide +kernel)]; exact ⟨rfl, rfl⟩))
    (fun os started H enc _ => lifted os started H enc)

theorem proved : Rows.ClockLengthsSaid := over
end Go.Proofs.Ytmehmnlhnbeeeaa.lawLengths
