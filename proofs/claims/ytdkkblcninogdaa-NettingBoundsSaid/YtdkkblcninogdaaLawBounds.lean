/- NettingBounds: the least number has its bounds. No condition. -/
import Derived.Test.YtdkkblcninogdaaArg
namespace Go.Proofs.Ytdkkblcninogdaa.lawBounds
open Go.ChangeShapes Go.WideShapes Go.ChangeAt Go.RowKit Go.Deep Go.Joins
set_option linter.unusedVariables false

/-! skiarea/skiarealaw37.NettingBounds -/
def lawIr : IFn := ⟨71, [.tmp 2],
  (.seq (.ops [
    ⟨(some 2), .mov, [.const (.bool false)], none⟩] false)
  (.seq (.seq (.ops [
    ⟨(some 7), .call 10, [], none⟩,
    ⟨(some 8), .not, [.tmp 7], none⟩] false)
  (.cond (.tmp 8)
    (.seq (.ops [
      ⟨(some 2), .mov, [.const (.bool false)], none⟩] false)
    .ret)
    .skip))
  (.seq (.seq (.ops [
    ⟨(some 9), .mov, [.tmp 0], none⟩,
    ⟨(some 10), .len, [.tmp 9], none⟩,
    ⟨(some 11), .cmp .gtr, [.tmp 10, .const (.int .i64 8)], none⟩,
    ⟨(some 12), .mov, [.tmp 11], none⟩,
    ⟨(some 13), .mov, [.tmp 0], (some (12, false))⟩,
    ⟨(some 14), .call 11, [.tmp 13], (some (12, false))⟩,
    ⟨(some 15), .cmp .neq, [.tmp 14, .const (.int .i64 0)], (some (12, false))⟩,
    ⟨(some 16), .pick, [.tmp 12, .const (.bool true), .tmp 15], none⟩] false)
  (.cond (.tmp 16)
    (.seq (.ops [
      ⟨(some 2), .mov, [.const (.bool true)], none⟩] false)
    .ret)
    .skip))
  (.seq (.ops [
    ⟨(some 3), .nilOwn 34 2, [], none⟩] false)
  (.seq (.ops [
    ⟨(some 4), .mov, [.const (.int .i64 0)], none⟩] false)
  (.seq (.seq (.ops [
    ⟨(some 5), .mov, [.const (.int .i64 0)], none⟩] false)
  (.block 0
    (.loop
      (.seq (.seq (.ops [
        ⟨(some 17), .mov, [.tmp 5], none⟩,
        ⟨(some 18), .mov, [.tmp 0], none⟩,
        ⟨(some 19), .len, [.tmp 18], none⟩,
        ⟨(some 20), .cmp .lss, [.tmp 17, .tmp 19], none⟩] false)
      (.cond (.tmp 20)
        .skip
        (.exit 0)))
      (.seq (.block 1
        (.seq (.ops [
          ⟨(some 23), .mov, [.tmp 3], none⟩,
          ⟨(some 24), .mov, [.tmp 0], none⟩,
          ⟨(some 25), .mov, [.tmp 5], none⟩,
          ⟨(some 26), .idx 2, [.tmp 24, .tmp 25], none⟩,
          ⟨(some 27), .faddr 0, [.tmp 26], none⟩,
          ⟨(some 28), .load 1 false, [.tmp 27], none⟩,
          ⟨(some 29), .mov, [.tmp 0], none⟩,
          ⟨(some 30), .mov, [.tmp 5], none⟩,
          ⟨(some 31), .idx 2, [.tmp 29, .tmp 30], none⟩,
          ⟨(some 32), .faddr 1, [.tmp 31], none⟩,
          ⟨(some 33), .load 1 false, [.tmp 32], none⟩,
          ⟨(some 34), .neg .i64, [.tmp 33], none⟩,
          ⟨(some 35), .build [.int .i64 0, .int .i64 0] [(0, 1), (1, 1)], [.tmp 28, .tmp 34], none⟩,
          ⟨(some 36), .buildSl 34 2, [.tmp 35], none⟩,
          ⟨(some 37), .append 34 2 16, [.tmp 23, .tmp 36], none⟩,
          ⟨(some 3), .mov, [.tmp 37], none⟩] true)
        (.seq (.ops [
          ⟨(some 38), .mov, [.tmp 0], none⟩,
          ⟨(some 39), .mov, [.tmp 5], none⟩,
          ⟨(some 40), .idx 2, [.tmp 38, .tmp 39], none⟩,
          ⟨(some 41), .faddr 1, [.tmp 40], none⟩,
          ⟨(some 42), .load 1 false, [.tmp 41], none⟩,
          ⟨(some 43), .cmp .neq, [.tmp 42, .const (.int .i64 0)], none⟩] false)
        (.cond (.tmp 43)
          (.ops [
            ⟨(some 44), .mov, [.tmp 4], none⟩,
            ⟨(some 45), .bin .add .i64 false, [.tmp 44, .const (.int .i64 1)], none⟩,
            ⟨(some 4), .mov, [.tmp 45], none⟩] false)
          .skip))))
      (.ops [
        ⟨(some 21), .mov, [.tmp 5], none⟩,
        ⟨(some 22), .bin .add .i64 false, [.tmp 21, .const (.int .i64 1)], none⟩,
        ⟨(some 5), .mov, [.tmp 22], none⟩] false))))))
  (.seq (.ops [
    ⟨(some 46), .mov, [.tmp 0], none⟩,
    ⟨(some 47), .call 15, [.tmp 46], none⟩,
    ⟨(some 6), .mov, [.tmp 47], none⟩] false)
  (.seq (.ops [
    ⟨(some 48), .mov, [.tmp 3], none⟩,
    ⟨(some 49), .call 15, [.tmp 48], none⟩,
    ⟨(some 50), .mov, [.tmp 6], none⟩,
    ⟨(some 51), .cmp .eql, [.tmp 49, .tmp 50], none⟩,
    ⟨(some 52), .mov, [.tmp 51], none⟩,
    ⟨(some 53), .mov, [.tmp 6], (some (52, true))⟩,
    ⟨(some 54), .bin .mul .i64 false, [.const (.int .i64 2), .tmp 53], (some (52, true))⟩,
    ⟨(some 55), .mov, [.tmp 4], (some (52, true))⟩,
    ⟨(some 56), .cmp .geq, [.tmp 54, .tmp 55], (some (52, true))⟩,
    ⟨(some 57), .pick, [.tmp 52, .tmp 56, .const (.bool false)], none⟩,
    ⟨(some 58), .mov, [.tmp 57], none⟩,
    ⟨(some 59), .mov, [.tmp 4], (some (58, true))⟩,
    ⟨(some 60), .cmp .eql, [.tmp 59, .const (.int .i64 0)], (some (58, true))⟩,
    ⟨(some 61), .mov, [.tmp 60], (some (58, true))⟩,
    ⟨(some 62), .mov, [.tmp 6], (some (61, true))⟩,
    ⟨(some 63), .cmp .eql, [.tmp 62, .const (.int .i64 0)], (some (61, true))⟩,
    ⟨(some 64), .pick, [.tmp 61, .tmp 63, .const (.bool false)], (some (58, true))⟩,
    ⟨(some 65), .mov, [.tmp 64], (some (58, true))⟩,
    ⟨(some 66), .mov, [.tmp 6], (some (65, false))⟩,
    ⟨(some 67), .mov, [.tmp 4], (some (65, false))⟩,
    ⟨(some 68), .cmp .lss, [.tmp 66, .tmp 67], (some (65, false))⟩,
    ⟨(some 69), .pick, [.tmp 65, .const (.bool true), .tmp 68], (some (58, true))⟩,
    ⟨(some 70), .pick, [.tmp 58, .tmp 69, .const (.bool false)], none⟩,
    ⟨(some 2), .mov, [.tmp 70], none⟩] false)
  .ret))))))))⟩
theorem lawLow : lowF Try.prog { owns := [(3, 34)] } Try.f8 = some lawIr := by kernel_rfl
def lawS : Spec := spec (List Share) (fun l => [L 2 (l.map encS)]) (fun _ => True) (fun _ => B true)
set_option maxHeartbeats 1000000 in
theorem lawV : fnV Try.prog lawIr lawS := by
  intro (l : List Share) _
  show vc _ _ _ _ ⟨argEnv 0 [L 2 (l.map encS)], [], 0⟩
  have hl : (l.map encS).length = l.length := List.length_map ..
  by_cases h8 : 8 < l.length
  · repeat' ((conv => whnf); first | (refine ⟨fun h => ?_, fun h => ?_⟩ <;> try (exfalso; first | omega | exact absurd h (by decide) | exact h rfl)) | (refine ⟨_, alive_h, (), trivial, leVs_of_eq rfl, .inl rfl, rfl, ?_⟩; show norm (B true) _) | exact ⟨[], rfl, trivial, rfl⟩ | fail)
  by_cases hr0 : rightF l = 0
  · have hr := right_iff.1 hr0
    have hrl := hr.len
    have hB := least_bounds hr
    have hbk := least_back l
    have hrb := right_back hr
    have hlb : leastF l ≤ 8 := by unfold leastF; have := List.length_filter_le (fun x : Share => decide (x.a ≠ 0)) l; have : (nzl l).length ≤ l.length := this; omega
    have hnl : (nzl l).length ≤ l.length := List.length_filter_le _ _
    repeat' ((conv => whnf); first | (refine ⟨fun h => ?_, fun h => ?_⟩ <;> try (exfalso; first | omega | exact absurd h (by decide) | exact h rfl)) | (refine ⟨_, alive_h, (), trivial, leVs_of_eq rfl, .inl rfl, rfl, ?_⟩; show norm (B true) _) | (refine ⟨_, right_h, l, (by show l.length ≤ _; omega), leVs_of_eq rfl, .inl rfl, rfl, ?_⟩; show norm (I (rightF l)) _; rw [hr0]) | fail)
    refine ⟨Nat × Nat × (List (List CV)), fun xq => ⟨[(0, L 2 (l.map encS)), (3, .osl 0), (4, I xq.2.1), (5, I xq.1)], [(0, .row 34 2 xq.2.2)], 1⟩, fun xq => xq.1 ≤ l.length ∧ xq.2.2 = (back (l.take xq.1)).map encS ∧ xq.2.1 = (nzl (l.take xq.1)).length, fun xq => l.length - xq.1, ⟨(0, 0, _), ?_, [], ⟨⟨rfl, rfl⟩, ⟨⟨rfl, rfl⟩, ⟨⟨rfl, rfl⟩, ⟨⟨rfl, rfl⟩, trivial⟩⟩⟩⟩, ⟨⟨rfl, rfl, rfl⟩, trivial⟩, rfl, rfl, rfl⟩, ?_⟩
    · (try dsimp only); exact ⟨Nat.zero_le _, rfl, rfl⟩
    rintro ⟨k, c, es⟩ hk
    obtain ⟨hk, rfl, hc⟩ : k ≤ l.length ∧ es = (back (l.take k)).map encS ∧ c = (nzl (l.take k)).length := hk
    (try dsimp only)
    by_cases hkl : k < l.length
    · obtain ⟨x, hx⟩ := getElem_some hkl
      have hox := (hr.ok x (List.mem_of_getElem? hx)).2
      have hbl : (back (l.take k)).length ≤ 8 := by unfold back; rw [List.length_map, List.length_take]; omega
      have hcl : (nzl (l.take k)).length ≤ k := by have := List.length_filter_le (fun x : Share => decide (x.a ≠ 0)) (l.take k); rw [List.length_take] at this; have : (nzl (l.take k)).length ≤ min k l.length := this; omega
      have hbs : (back (l.take (k + 1))).map encS = (back (l.take k)).map encS ++ [encS ⟨x.o, -x.a⟩] := by rw [take_snoc l k x hx]; unfold back; rw [List.map_append, List.map_append]; rfl
      have hng : [CV.int .i64 x.o, CV.int .i64 (0 - x.a)] = encS ⟨x.o, -x.a⟩ := by show [CV.int .i64 x.o, CV.int .i64 (0 - x.a)] = [CV.int .i64 x.o, CV.int .i64 (-x.a)]; rw [Int.zero_sub]
      by_cases hz : x.a = 0
      · have hzn := nzl_take_no hx hz
        repeat' ((conv => whnf); first | (refine ⟨(k + 1, c, _), ⟨?_, by (try dsimp only); omega⟩, [(0, 1)], ⟨⟨rfl, rfl⟩, ⟨⟨rfl, rfl⟩, ⟨⟨rfl, rfl⟩, ⟨⟨rfl, rfl⟩, trivial⟩⟩⟩⟩, ⟨⟨rfl, rfl, rfl⟩, trivial⟩, rfl, rfl, rfl⟩; (try dsimp only); exact ⟨by omega, by rw [hbs]; exact congrArg (fun r => List.map encS (back (List.take k l)) ++ [r]) hng, by rw [hzn]; exact hc⟩) | (refine ⟨fun h => ?_, fun h => ?_⟩ <;> try (exfalso; first | omega | exact absurd h (by decide) | exact h rfl)) | (refine ⟨by omega, fun r hrr => ?_⟩; obtain rfl := get_row hrr hx) | (refine ⟨⟨by simp only [List.length_map, List.length_cons, List.length_nil]; omega, by simp only [List.length_map, List.length_cons, List.length_nil]; omega⟩, ?_⟩) | refine ⟨⟨by omega, by omega⟩, ?_⟩ | fail)
      · have hzn := nzl_take_yes hx hz
        repeat' ((conv => whnf); first | (refine ⟨(k + 1, c + 1, _), ⟨?_, by (try dsimp only); omega⟩, [(0, 1)], ⟨⟨rfl, rfl⟩, ⟨⟨rfl, rfl⟩, ⟨⟨rfl, rfl⟩, ⟨⟨rfl, rfl⟩, trivial⟩⟩⟩⟩, ⟨⟨rfl, rfl, rfl⟩, trivial⟩, rfl, rfl, rfl⟩; (try dsimp only); exact ⟨by omega, by rw [hbs]; exact congrArg (fun r => List.map encS (back (List.take k l)) ++ [r]) hng, by rw [hzn, List.length_append, ← hc]; rfl⟩) | (refine ⟨fun h => ?_, fun h => ?_⟩ <;> try (exfalso; first | omega | exact absurd h (by decide) | exact h rfl)) | (refine ⟨by omega, fun r hrr => ?_⟩; obtain rfl := get_row hrr hx) | (refine ⟨⟨by simp only [List.length_map, List.length_cons, List.length_nil]; omega, by simp only [List.length_map, List.length_cons, List.length_nil]; omega⟩, ?_⟩) | refine ⟨⟨by omega, by omega⟩, ?_⟩ | fail)
    · rw [take_end hkl] at *
      repeat' ((conv => whnf); first | (refine ⟨fun h => ?_, fun h => ?_⟩ <;> try (exfalso; first | omega | exact absurd h (by decide) | exact h rfl)) | (refine ⟨_, least_h, l, hr, leVs_of_eq rfl, .inl rfl, rfl, ?_⟩; show norm (I ((leastF l : Nat) : Int)) _) | refine ⟨⟨by omega, by omega⟩, ?_⟩ | (refine ⟨_, least_h, back l, hrb, leVs_of_eq rfl, .inr rfl, rfl, ?_⟩; show norm (I ((leastF (back l) : Nat) : Int)) _; rw [hbk]) | exact ⟨[], rfl, trivial, rfl⟩ | fail)
  · repeat' ((conv => whnf); first | (refine ⟨_, right_h, l, (by show l.length ≤ _; omega), leVs_of_eq rfl, .inl rfl, rfl, ?_⟩; show norm (I (rightF l)) _) | (refine ⟨fun h => ?_, fun h => ?_⟩ <;> try (exfalso; first | omega | exact absurd h (by decide) | exact h rfl)) | (refine ⟨_, alive_h, (), trivial, leVs_of_eq rfl, .inl rfl, rfl, ?_⟩; show norm (B true) _) | exact ⟨[], rfl, trivial, rfl⟩ | fail)
theorem law_h : Holds Try.prog 8 lawS := holds_of mix Try.func8 lawLow (fun _ => rfl) lawV

/-! ### THE ROW's STEP -/
theorem own : ownKnob Try.prog.godebug = none := by kernel_rfl
theorem laidOut : laidOutB Try.prog = true := by kernel_rfl
set_option maxRecDepth 100000 in
theorem lifted (os : Os) (started : os.Started) (H : Type) (enc : TypeId × Value → H) :
    ReturnsInHanded {} Try.checked os 8 .any (Rows.nettingBoundsSpec.pre6 enc Try.prog Try.f8 Rows.nettingBoundsRow.domain false) (Rows.nettingBoundsSpec.post enc Try.prog Try.f8 false true false false) := by
  refine returnsInHanded_of_change (C := Try.checked) own started (by kernel_rfl) Try.func8
    (ChangeSpec.witness6 (enc := enc) (C := Try.checked) false ⟨#[], #[.slice none 0 0], []⟩ 8 (by kernel_rfl) (by kernel_rfl) (by kernel_rfl) (by kernel_rfl)) ?_
  intro W base args ds gs before hval0 hW hcnd _
  have hval : ∀ (j : Nat) t v, Try.f8.params[j]? = some t → args[j]? = some v → Value.okWide Try.prog W .any base t v := hval0
  have hW' := hW
  obtain ⟨p, q, hA0, hV, rfl, hfz, hnd⟩ := hW
  have hA : DataW.TrodAll enc Try.prog W 0 (fun _ => true) true Try.f8.params.toList args.toList ds p := hA0
  rw [Try.params8] at hA hval
  obtain ⟨v0, vs0, d0, ds0, p0, q0, hargs, rfl, rfl, h0, r0⟩ := trodAll_cons hA
  obtain ⟨rfl, rfl, rfl⟩ := trodAll_nil r0
  obtain rfl : args = #[v0] := by cases args; simp_all
  obtain ⟨rfl, rfl⟩ := trodVars_none hV
  have lt0 : ∀ x ∈ p0, x.block < W.heap.size := by obtain ⟨m, hm⟩ := h0; exact DataW.trod_lt m _ _ _ hm
  obtain ⟨z0, w0, x0⟩ := openS (hval 0 22 v0 rfl rfl) h0
  clear hA0 hval0
  refine Calls.mono (law_calls law_h z0 trivial rfl (vs := [v0]) (replist_mk x0 replist_mk0)) fun e W' ⟨he, bel⟩ => ?_
  subst he
  exact ⟨_, rfl, _, _, _, [], _, [], hW', trodAll_mk1 (shut_bool Try.underlying4 _), (trodAll_cons_mk (Below.trod laidOut (by kernel_rfl) (of_decide_eq_true (by kernel_rfl)) h0 bel lt0) trodAll_mk0), rfl, bel.frame _, fun h => by cases h⟩

theorem over : Rows.nettingBoundsRow.holds Try.pinned (OpenSpec.ofChange Rows.nettingBoundsSpec) :=
  OpenClaim.holds_of_wide 8 Try.f8 rfl rfl rfl rfl rfl rfl rfl ⟨rfl, rfl, rfl, rfl, rfl⟩ rfl rfl rfl rfl rfl (by kernel_rfl) Try.func8 (by kernel_rfl)
    (of_decide_eq_true (by kernel_rfl)) (by unfold Func.isWrapper; first | (rw [if_pos (by decide +kernel)]; kernel_rfl) | (rw [if_neg (by decide +kernel)]; exact ⟨rfl, rfl⟩))
    (fun os started H enc _ => lifted os started H enc)

theorem proved : Rows.NettingBoundsSaid := over
end Go.Proofs.Ytdkkblcninogdaa.lawBounds
