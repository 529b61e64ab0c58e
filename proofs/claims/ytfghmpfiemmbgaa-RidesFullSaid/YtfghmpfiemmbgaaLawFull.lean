/- RidesFull: a store never has more than MaxRides rides. No condition. -/
import Derived.Test.YtfghmpfiemmbgaaG5
namespace Go.Proofs.Ytfghmpfiemmbgaa.lawFull
open Go.ChangeShapes Go.WideShapes Go.ChangeAt Go.RowKit Go.Deep Go.Joins
set_option linter.unusedVariables false

/-! skiarea/skiarealaw31.RidesFull -/
def lawIr : IFn := ⟨93, [.tmp 4],
  (.seq (.ops [
    ⟨(some 3), .box, [.tmp 1], none⟩,
    ⟨(some 4), .mov, [.const (.bool false)], none⟩] false)
  (.seq (.seq (.ops [
    ⟨(some 18), .call 11, [], none⟩,
    ⟨(some 19), .not, [.tmp 18], none⟩] false)
  (.cond (.tmp 19)
    (.seq (.ops [
      ⟨(some 4), .mov, [.const (.bool false)], none⟩] false)
    .ret)
    .skip))
  (.seq (.ops [
    ⟨(some 20), .mov, [.tmp 0], none⟩,
    ⟨(some 21), .conv .i64, [.tmp 20], none⟩,
    ⟨(some 22), .bin .rem .i64 false, [.tmp 21, .const (.int .i64 2001)], none⟩,
    ⟨(some 23), .bin .add .i64 false, [.const (.int .i64 1), .tmp 22], none⟩,
    ⟨(some 5), .mov, [.tmp 23], none⟩] false)
  (.seq (.ops [
    ⟨(some 6), .nilOwn 28 7, [], none⟩] false)
  (.seq (.seq (.ops [
    ⟨(some 7), .mov, [.const (.int .i64 1)], none⟩] false)
  (.block 0
    (.loop
      (.seq (.seq (.ops [
        ⟨(some 24), .mov, [.tmp 6], none⟩,
        ⟨(some 25), .len, [.tmp 24], none⟩,
        ⟨(some 26), .cmp .lss, [.tmp 25, .const (.int .i64 2000)], none⟩] false)
      (.cond (.tmp 26)
        .skip
        (.exit 0)))
      (.seq (.block 1
        (.seq (.ops [
          ⟨(some 29), .mov, [.tmp 7], none⟩,
          ⟨(some 30), .mov, [.tmp 5], none⟩,
          ⟨(some 31), .cmp .neq, [.tmp 29, .tmp 30], none⟩] false)
        (.cond (.tmp 31)
          (.ops [
            ⟨(some 32), .mov, [.tmp 6], none⟩,
            ⟨(some 33), .mov, [.tmp 7], none⟩,
            ⟨(some 34), .mov, [.tmp 7], none⟩,
            ⟨(some 35), .call 20, [.tmp 33, .tmp 34], none⟩,
            ⟨(some 36), .buildSl 28 7, [.tmp 35], none⟩,
            ⟨(some 37), .append 28 7 56, [.tmp 32, .tmp 36], none⟩,
            ⟨(some 6), .mov, [.tmp 37], none⟩] false)
          .skip)))
      (.ops [
        ⟨(some 27), .mov, [.tmp 7], none⟩,
        ⟨(some 28), .bin .add .i64 false, [.tmp 27, .const (.int .i64 1)], none⟩,
        ⟨(some 7), .mov, [.tmp 28], none⟩] false))))))
  (.seq (.seq (.sealc 6)
  (.ops [
    ⟨(some 39), .mov, [.tmp 6], none⟩,
    ⟨(some 40), .load 7 true, [.tmp 3], none⟩,
    ⟨(some 41), .call 15, [.tmp 39, .tmp 40], none⟩,
    ⟨(some 38), .mov, [.tmp 41], none⟩,
    ⟨(some 42), .extract 0, [.tmp 38], none⟩,
    ⟨(some 43), .extract 1, [.tmp 38], none⟩,
    ⟨(some 44), .extract 2, [.tmp 38], none⟩,
    ⟨(some 8), .mov, [.tmp 42], none⟩,
    ⟨(some 9), .mov, [.tmp 43], none⟩,
    ⟨(some 10), .mov, [.tmp 44], none⟩] false))
  (.seq (.ops [
    ⟨(some 46), .mov, [.tmp 6], none⟩,
    ⟨(some 47), .load 7 true, [.tmp 3], none⟩,
    ⟨(some 48), .call 16, [.tmp 46, .tmp 47], none⟩,
    ⟨(some 45), .mov, [.tmp 48], none⟩,
    ⟨(some 49), .extract 0, [.tmp 45], none⟩,
    ⟨(some 50), .extract 1, [.tmp 45], none⟩,
    ⟨(some 51), .extract 2, [.tmp 45], none⟩,
    ⟨(some 11), .mov, [.tmp 49], none⟩,
    ⟨(some 12), .mov, [.tmp 50], none⟩,
    ⟨(some 13), .mov, [.tmp 51], none⟩] false)
  (.seq (.ops [
    ⟨(some 53), .mov, [.tmp 6], none⟩,
    ⟨(some 54), .mov, [.tmp 5], none⟩,
    ⟨(some 55), .mov, [.tmp 5], none⟩,
    ⟨(some 56), .call 20, [.tmp 54, .tmp 55], none⟩,
    ⟨(some 57), .buildSl 28 7, [.tmp 56], none⟩,
    ⟨(some 58), .call 18, [.tmp 53, .tmp 57], none⟩,
    ⟨(some 52), .mov, [.tmp 58], none⟩,
    ⟨(some 59), .extract 0, [.tmp 52], none⟩,
    ⟨(some 60), .extract 1, [.tmp 52], none⟩,
    ⟨(some 14), .mov, [.tmp 59], none⟩,
    ⟨(some 15), .mov, [.tmp 60], none⟩] false)
  (.seq (.ops [
    ⟨(some 62), .mov, [.tmp 6], none⟩,
    ⟨(some 63), .mov, [.tmp 5], none⟩,
    ⟨(some 64), .mov, [.tmp 5], none⟩,
    ⟨(some 65), .call 20, [.tmp 63, .tmp 64], none⟩,
    ⟨(some 66), .buildSl 28 7, [.tmp 65], none⟩,
    ⟨(some 67), .call 19, [.tmp 62, .tmp 66], none⟩,
    ⟨(some 61), .mov, [.tmp 67], none⟩,
    ⟨(some 68), .extract 0, [.tmp 61], none⟩,
    ⟨(some 69), .extract 1, [.tmp 61], none⟩,
    ⟨(some 16), .mov, [.tmp 68], none⟩,
    ⟨(some 17), .mov, [.tmp 69], none⟩] false)
  (.seq (.ops [
    ⟨(some 70), .mov, [.tmp 8], none⟩,
    ⟨(some 71), .mov, [.tmp 11], none⟩,
    ⟨(some 72), .call 17, [.tmp 70, .tmp 71], none⟩,
    ⟨(some 73), .mov, [.tmp 72], none⟩,
    ⟨(some 74), .mov, [.tmp 9], (some (73, true))⟩,
    ⟨(some 75), .mov, [.tmp 12], (some (73, true))⟩,
    ⟨(some 76), .eqb false, [.tmp 74, .tmp 75], (some (73, true))⟩,
    ⟨(some 77), .pick, [.tmp 73, .tmp 76, .const (.bool false)], none⟩,
    ⟨(some 78), .mov, [.tmp 77], none⟩,
    ⟨(some 79), .mov, [.tmp 10], (some (78, true))⟩,
    ⟨(some 80), .mov, [.tmp 13], (some (78, true))⟩,
    ⟨(some 81), .cmp .eql, [.tmp 79, .tmp 80], (some (78, true))⟩,
    ⟨(some 82), .pick, [.tmp 78, .tmp 81, .const (.bool false)], none⟩,
    ⟨(some 83), .mov, [.tmp 82], none⟩,
    ⟨(some 84), .mov, [.tmp 14], (some (83, true))⟩,
    ⟨(some 85), .mov, [.tmp 16], (some (83, true))⟩,
    ⟨(some 86), .call 17, [.tmp 84, .tmp 85], (some (83, true))⟩,
    ⟨(some 87), .pick, [.tmp 83, .tmp 86, .const (.bool false)], none⟩,
    ⟨(some 88), .mov, [.tmp 87], none⟩,
    ⟨(some 89), .mov, [.tmp 15], (some (88, true))⟩,
    ⟨(some 90), .mov, [.tmp 17], (some (88, true))⟩,
    ⟨(some 91), .cmp .eql, [.tmp 89, .tmp 90], (some (88, true))⟩,
    ⟨(some 92), .pick, [.tmp 88, .tmp 91, .const (.bool false)], none⟩,
    ⟨(some 4), .mov, [.tmp 92], none⟩] false)
  .ret))))))))))⟩
theorem lawLow : lowF Try.prog { owns := [(6, 28)], seals := [(39, 6)] } Try.f6 = some lawIr := by kernel_rfl
def lawS : Spec := spec (Int × Ride) (fun p => [.c (.int .u16 p.1), aR p.2]) (fun p => 0 ≤ p.1 ∧ p.1 ≤ 65535) (fun _ => B true)
theorem lawV : fnV Try.prog lawIr lawS := by
  intro ⟨(n0 : Int), (r : Ride)⟩ hx
  obtain ⟨hn0, hn1⟩ : 0 ≤ n0 ∧ n0 ≤ 65535 := hx
  have hm1 : 0 ≤ n0.tmod 2001 := Int.tmod_nonneg _ hn0
  have hm2 : n0.tmod 2001 < 2001 := Int.tmod_lt_of_pos _ (by decide)
  show vc _ _ _ ⟨argEnv 0 [.c (.int .u16 n0), aR r], [], 0⟩
  repeat' ((conv => whnf); first | (refine ⟨fun h => ?_, fun h => ?_⟩ <;> try (exfalso; first | omega | exact absurd h (by decide) | exact h rfl | (simp at h; done))) | refine ⟨_, alive_h, (), trivial, leVs_of_eq rfl, .inr rfl, rfl, ?_⟩ | refine ⟨⟨by omega, by omega⟩, ?_⟩ | refine ⟨by decide, ?_⟩ | fail)
  generalize hsk : 1 + n0.tmod 2001 = skip
  have hs1 : 1 ≤ skip := by omega
  have hs2 : skip ≤ 2001 := by omega
  conv => whnf
  refine ⟨Nat × Int × (List (List CV)), fun xq => ⟨[(3, .bp 0 0), (5, I skip), (6, .osl 1), (7, I xq.2.1)], [(0, .box ((encR r).map .c)), (1, .row 28 7 xq.2.2)], 2⟩, fun xq => ((xq.2.1 = xq.1 + 1 ∧ xq.2.2 = (fullL skip xq.1).map encR) ∧ xq.1 ≤ 2001) ∧ (fullL skip xq.1).length ≤ 2000, fun xq => 2001 - xq.1, ⟨(0, _, _), ?_, [], ⟨⟨rfl, rfl⟩, ⟨⟨rfl, rfl⟩, ⟨⟨rfl, rfl⟩, ⟨⟨rfl, rfl⟩, trivial⟩⟩⟩⟩, ⟨⟨rfl, rfl, rfl⟩, ⟨⟨rfl, rfl, rfl⟩, trivial⟩⟩, rfl, rfl⟩, ?_⟩
  · (try dsimp only); exact ⟨⟨⟨rfl, rfl⟩, Nat.zero_le _⟩, Nat.zero_le _⟩
  rintro ⟨k, n, es⟩ hk
  obtain ⟨⟨⟨rfl, rfl⟩, hk⟩, hle⟩ : ((n = k + 1 ∧ es = (fullL skip k).map encR) ∧ k ≤ 2001) ∧ (fullL skip k).length ≤ 2000 := hk
  (try dsimp only)
  have hl : ((fullL skip k).map encR).length = (fullL skip k).length := List.length_map ..
  have hlen := fullL_len skip hs1 k
  have hlen' := fullL_len skip hs1 (k + 1)
  have pl : (fullL skip k).length ≤ 3000 ∧ Sorted (fullL skip k) := ⟨by omega, fullL_sorted skip k⟩
  conv => whnf
  refine ⟨fun h => ?_, fun h => ?_⟩
  · have hk2 : k + 1 ≤ 2001 := by split at hlen <;> omega
    conv => whnf
    refine ⟨fun h1 => ?_, fun h1 => ?_⟩
    · have hf : fullL skip (k + 1) = fullL skip k ++ [rideOf ((k : Int) + 1) ((k : Int) + 1)] := by rw [fullL, if_neg (by omega)]; rfl
      conv => whnf
      refine ⟨_, ride_h, (_, _), trivial, leVs_of_eq rfl, .inr rfl, rfl, ?_⟩
      conv => whnf
      refine ⟨⟨by rw [hl]; simp only [List.length_cons, List.length_nil]; omega, by rw [hl]; simp only [List.length_cons, List.length_nil]; omega⟩, ?_⟩
      conv => whnf
      refine ⟨⟨by omega, by omega⟩, ?_⟩
      conv => whnf
      (refine ⟨(k + 1, _, _), ⟨?_, by dsimp only; omega⟩, [(0, 0), (1, 2)], ⟨⟨rfl, rfl⟩, ⟨⟨rfl, rfl⟩, ⟨⟨rfl, rfl⟩, ⟨⟨rfl, rfl⟩, trivial⟩⟩⟩⟩, ⟨⟨rfl, rfl, rfl⟩, ⟨⟨rfl, rfl, rfl⟩, trivial⟩⟩, rfl, rfl⟩; (try dsimp only); exact ⟨⟨⟨by omega, by rw [hf, List.map_append]; rfl⟩, by omega⟩, by rw [hf, List.length_append]; simp; omega⟩)
    · have hf : fullL skip (k + 1) = fullL skip k := by rw [fullL, if_pos (by omega)]
      conv => whnf
      refine ⟨⟨by omega, by omega⟩, ?_⟩
      conv => whnf
      (refine ⟨(k + 1, _, _), ⟨?_, by dsimp only; omega⟩, [], ⟨⟨rfl, rfl⟩, ⟨⟨rfl, rfl⟩, ⟨⟨rfl, rfl⟩, ⟨⟨rfl, rfl⟩, trivial⟩⟩⟩⟩, ⟨⟨rfl, rfl, rfl⟩, ⟨⟨rfl, rfl, rfl⟩, trivial⟩⟩, rfl, rfl⟩; (try dsimp only); exact ⟨⟨⟨by omega, by rw [hf]⟩, by omega⟩, by rw [hf]; exact hle⟩)
  · generalize fullL skip k = l at *
    have pr : ([rideOf skip skip] : List Ride).length ≤ 3000 ∧ Sorted [rideOf skip skip] := ⟨by simp, by simp⟩
    cases hb : addB l r
    all_goals repeat' ((conv => whnf); first | (refine ⟨fun h => ?_, fun h => ?_⟩ <;> try (exfalso; first | omega | exact absurd h (by decide) | exact h rfl | (simp at h; done) | exact absurd (h.symm.trans hb) (by decide))) | refine ⟨_, ride_h, (_, _), trivial, leVs_of_eq rfl, .inr rfl, rfl, ?_⟩ | refine ⟨_, addW, (l, r), pl, leVs_of_eq rfl, .inl rfl, rfl, ?_⟩ | refine ⟨_, refAddW, (l, r), pl, leVs_of_eq rfl, .inl rfl, rfl, ?_⟩ | refine ⟨_, mergeW, (l, [rideOf skip skip]), ⟨pl, pr⟩, leVs_of_eq rfl, .inl rfl, rfl, ?_⟩ | refine ⟨_, refMergeW, (l, [rideOf skip skip]), ⟨pl, pr⟩, leVs_of_eq rfl, .inl rfl, rfl, ?_⟩ | refine ⟨_, same_h, (addL l r, addL l r), Nat.le_trans (addL_len l r) (by decide), leVs_of_eq rfl, .inl rfl, rfl, ?_⟩ | refine ⟨_, same_h, (mergeL l [rideOf skip skip], mergeL l [rideOf skip skip]), Nat.le_trans (mergeL_len l _) (by decide), leVs_of_eq rfl, .inl rfl, rfl, ?_⟩ | exact ⟨[], rfl, trivial, rfl⟩ | fail)
theorem law_h : Holds Try.prog 6 lawS := holds_of mix Try.func6 lawLow (fun _ => rfl) lawV

/-! ### THE ROW's STEP -/
theorem own : ownKnob Try.prog.godebug = none := by kernel_rfl
theorem laidOut : laidOutB Try.prog = true := by kernel_rfl
set_option maxRecDepth 100000 in
theorem lifted (os : Os) (started : os.Started) (H : Type) (enc : TypeId × Value → H) :
    ReturnsInHanded {} Try.checked os 6 .any (Rows.ridesFullSpec.pre6 enc Try.prog Try.f6 Rows.ridesFullRow.domain false) (Rows.ridesFullSpec.post enc Try.prog Try.f6 false true false false) := by
  refine returnsInHanded_of_change (C := Try.checked) own started (by kernel_rfl) Try.func6
    (ChangeSpec.witness6 (enc := enc) (C := Try.checked) false ⟨#[], #[.int .u16 0, .agg #[.int .i64 0, .int .i64 0, .int .i64 0, .int .i64 0, .int .i64 0, .int .i64 0, .int .i64 0]], []⟩ 8 (by kernel_rfl) (by kernel_rfl) (by kernel_rfl) (by kernel_rfl)) ?_
  intro W base args ds gs before hval0 hW hcnd _
  have hval : ∀ (j : Nat) t v, Try.f6.params[j]? = some t → args[j]? = some v → Value.okWide Try.prog W .any base t v := hval0
  have hW' := hW
  obtain ⟨p, q, hA0, hV, rfl, hfz, hnd⟩ := hW
  have hA : DataW.TrodAll enc Try.prog W 0 (fun _ => true) true Try.f6.params.toList args.toList ds p := hA0
  rw [Try.params6] at hA hval
  obtain ⟨v0, vs0, d0, ds0, p0, q0, hargs, rfl, rfl, h0, r0⟩ := trodAll_cons hA
  obtain ⟨v1, vs1, d1, ds1, p1, q1, rfl, rfl, rfl, h1, r1⟩ := trodAll_cons r0
  obtain ⟨rfl, rfl, rfl⟩ := trodAll_nil r1
  obtain rfl : args = #[v0, v1] := by cases args; simp_all
  obtain ⟨rfl, rfl⟩ := trodVars_none hV
  have lt0 : ∀ x ∈ p0, x.block < W.heap.size := by obtain ⟨m, hm⟩ := h0; exact DataW.trod_lt m _ _ _ hm
  obtain ⟨z0, w0, x0⟩ := open_i Try.underlying35 (hval 0 35 v0 rfl rfl) h0
  have lt1 : ∀ x ∈ p1, x.block < W.heap.size := by obtain ⟨m, hm⟩ := h1; exact DataW.trod_lt m _ _ _ hm
  obtain ⟨z1, w1, x1⟩ := openRide (hval 1 28 v1 rfl rfl) h1
  clear hA0 hval0
  refine Calls.mono (law_calls law_h (z0, z1) (bounds_u16 w0) rfl (vs := [v0, v1]) (replist_mk x0 (replist_mk x1 replist_mk0))) fun e W' ⟨he, bel⟩ => ?_
  subst he
  exact ⟨_, rfl, _, _, _, [], _, [], hW', trodAll_mk1 (shut_bool Try.underlying4 _), (trodAll_cons_mk (Below.trod laidOut (by kernel_rfl) (of_decide_eq_true (by kernel_rfl)) h0 bel lt0) (trodAll_cons_mk (Below.trod laidOut (by kernel_rfl) (of_decide_eq_true (by kernel_rfl)) h1 bel lt1) trodAll_mk0)), rfl, bel.frame _, fun h => by cases h⟩

theorem over : Rows.ridesFullRow.holds Try.pinned (OpenSpec.ofChange Rows.ridesFullSpec) :=
  OpenClaim.holds_of_wide 6 Try.f6 rfl rfl rfl rfl rfl rfl rfl ⟨rfl, rfl, rfl, rfl, rfl⟩ rfl rfl rfl rfl rfl (by kernel_rfl) Try.func6 (by kernel_rfl)
    (of_decide_eq_true (by kernel_rfl)) (by unfold Func.isWrapper; first | (rw [if_pos (by decide +kernel)]; kernel_rfl) | (rw [if_neg (by decide +kernel)]; exact ⟨rfl, rfl⟩))
    (fun os started H enc _ => lifted os started H enc)

theorem proved : Rows.RidesFullSaid := over
end Go.Proofs.Ytfghmpfiemmbgaa.lawFull
