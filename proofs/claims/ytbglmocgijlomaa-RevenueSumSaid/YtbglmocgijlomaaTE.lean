/- Revenue: the points of the operators. -/
import Derived.Test.YtbglmocgijlomaaTD
import Derived.Test.YtbglmocgijlomaaS5
namespace Go.Proofs.Ytbglmocgijlomaa
open Go.RowKit

/-! skiarea/revenue.Points -/
def pointsIr : IFn := ⟨56, [.tmp 8],
  (.seq (.ops [
    ⟨(some 4), .box, [.tmp 0], none⟩,
    ⟨(some 8), .mov, [.const (.slice none 0 0)], none⟩] false)
  (.seq (.ops [
    ⟨(some 14), .mksl 3 1 8 [.int .i64 0], [.const (.int .i64 8), .const (.int .i64 8)], none⟩,
    ⟨(some 9), .mov, [.tmp 14], none⟩] false)
  (.seq (.seq (.ops [
    ⟨(some 15), .mov, [.tmp 2], none⟩,
    ⟨(some 16), .len, [.tmp 15], none⟩,
    ⟨(some 17), .mov, [.const (.int .i64 0)], none⟩] false)
  (.block 0
    (.loop
      (.seq (.ops [
        ⟨(some 18), .cmp .lss, [.tmp 17, .tmp 16], none⟩] false)
      (.seq (.cond (.tmp 18)
        .skip
        (.exit 0))
      (.seq (.block 1
        (.seq (.ops [
          ⟨(some 19), .idx 7, [.tmp 15, .tmp 17], none⟩,
          ⟨(some 20), .load 7 true, [.tmp 19], none⟩,
          ⟨(some 11), .alloc [.int .i64 0, .int .i64 0, .int .i64 0, .int .i64 0, .int .i64 0, .int .i64 0, .int .i64 0], [], none⟩,
          ⟨none, .store 7, [.tmp 11, .tmp 20], none⟩] false)
        (.seq (.seq (.ops [
          ⟨(some 21), .faddr 2, [.tmp 11], none⟩,
          ⟨(some 22), .load 1 false, [.tmp 21], none⟩,
          ⟨(some 23), .mov, [.tmp 3], none⟩,
          ⟨(some 24), .cmp .neq, [.tmp 22, .tmp 23], none⟩] false)
        (.cond (.tmp 24)
          (.exit 1)
          .skip))
        (.seq (.ops [
          ⟨(some 26), .load 4 true, [.tmp 4], none⟩,
          ⟨(some 27), .faddr 5, [.tmp 11], none⟩,
          ⟨(some 28), .load 1 false, [.tmp 27], none⟩,
          ⟨(some 29), .call 29, [.tmp 26, .tmp 28], none⟩,
          ⟨(some 25), .mov, [.tmp 29], none⟩,
          ⟨(some 30), .extract 0, [.tmp 25], none⟩,
          ⟨(some 31), .extract 1, [.tmp 25], none⟩,
          ⟨(some 12), .alloc [.int .i64 0, .int .i64 0, .int .i64 0, .int .i64 0, .int .i64 0, .int .i64 0, .int .i64 0, .int .i64 0], [], none⟩,
          ⟨none, .store 8, [.tmp 12, .tmp 30], none⟩,
          ⟨(some 13), .mov, [.tmp 31], none⟩] false)
        (.seq (.ops [
          ⟨(some 32), .mov, [.tmp 13], none⟩,
          ⟨(some 33), .mov, [.tmp 32], none⟩,
          ⟨(some 34), .faddr 1, [.tmp 12], (some (33, true))⟩,
          ⟨(some 35), .load 1 false, [.tmp 34], (some (33, true))⟩,
          ⟨(some 36), .cmp .geq, [.tmp 35, .const (.int .i64 1)], (some (33, true))⟩,
          ⟨(some 37), .pick, [.tmp 33, .tmp 36, .const (.bool false)], none⟩,
          ⟨(some 38), .mov, [.tmp 37], none⟩,
          ⟨(some 39), .faddr 1, [.tmp 12], (some (38, true))⟩,
          ⟨(some 40), .load 1 false, [.tmp 39], (some (38, true))⟩,
          ⟨(some 41), .cmp .leq, [.tmp 40, .const (.int .i64 8)], (some (38, true))⟩,
          ⟨(some 42), .pick, [.tmp 38, .tmp 41, .const (.bool false)], none⟩] false)
        (.cond (.tmp 42)
          (.ops [
            ⟨(some 43), .mov, [.tmp 9], none⟩,
            ⟨(some 44), .faddr 1, [.tmp 12], none⟩,
            ⟨(some 45), .load 1 false, [.tmp 44], none⟩,
            ⟨(some 46), .bin .sub .i64 false, [.tmp 45, .const (.int .i64 1)], none⟩,
            ⟨(some 47), .idx 1, [.tmp 43, .tmp 46], none⟩,
            ⟨(some 48), .load 1 false, [.tmp 47], none⟩,
            ⟨(some 49), .mov, [.tmp 1], none⟩,
            ⟨(some 50), .load 7 true, [.tmp 11], none⟩,
            ⟨(some 51), .call 30, [.tmp 49, .tmp 50], none⟩,
            ⟨(some 52), .bin .add .i64 false, [.tmp 48, .tmp 51], none⟩,
            ⟨(some 53), .idx 1, [.tmp 43, .tmp 46], none⟩,
            ⟨none, .store 1, [.tmp 53, .tmp 52], none⟩] true)
          .skip))))))
      (.ops [
        ⟨(some 54), .bin .add .i64 false, [.tmp 17, .const (.int .i64 1)], none⟩,
        ⟨(some 17), .mov, [.tmp 54], none⟩] false)))))))
  (.seq (.ops [
    ⟨(some 55), .mov, [.tmp 9], none⟩,
    ⟨(some 8), .mov, [.tmp 55], none⟩] false)
  .ret))))⟩
theorem pointsLow : lowF Try.prog { owns := [(9, 3)] } Try.f15 = some pointsIr := by kernel_rfl
def pointsS : Spec := ⟨Mp × List Tariff × List Ride × Int, fun p => [aM p.1, L 2 (p.2.1.map encT), L 7 (p.2.2.1.map encD), I p.2.2.2], fun p => (okM p.1 ∧ p.2.1.length ≤ 1000000) ∧ Rates p.2.1 ∧ p.2.2.1.length ≤ 100000, fun p => L 1 ((ptsAll p.1 p.2.1 p.2.2.1 p.2.2.2).map e1), fun _ => []⟩
set_option maxHeartbeats 2000000 in
theorem pointsV : fnV Try.prog pointsIr pointsS := by
  intro ⟨(m : Mp), (l : List Tariff), (rides : List Ride), (serial : Int)⟩ hx
  obtain ⟨⟨hm, hll⟩, hR, hlr⟩ : (okM m ∧ l.length ≤ 1000000) ∧ Rates l ∧ rides.length ≤ 100000 := hx
  have hl : (rides.map encD).length = rides.length := List.length_map ..
  show vc _ _ _ _ ⟨argEnv 0 [aM m, L 2 (l.map encT), L 7 (rides.map encD), I serial], [], 0⟩
  repeat' ((conv => whnf); first | (refine ⟨fun h => ?_, fun h => ?_⟩ <;> try (exfalso; first | omega | exact absurd h (by decide) | exact h rfl)) | (refine ⟨⟨by decide, by decide⟩, ?_⟩) | (refine ⟨⟨by decide, by decide, by decide⟩, ?_⟩) | refine ⟨⟨by omega, by omega⟩, ?_⟩ | fail | fail)
  refine ⟨Nat × (List (List CV)), fun xq => ⟨[(1, L 2 (l.map encT)), (3, I serial), (4, .bp 0 0), (9, .osl 1), (15, L 7 (rides.map encD)), (16, I (rides.map encD).length), (17, I xq.1)], [(0, .box [L 2 (m.nodes.map encN), L 8 (m.lifts.map encL), L 7 (m.runs.map encU), L 1 (m.bases.map e1)]), (1, .row 3 1 xq.2)], 2⟩, fun xq => xq.1 ≤ rides.length ∧ xq.2 = (ptsAll m l (rides.take xq.1) serial).map e1, fun xq => rides.length - xq.1, ⟨(0, _), ?_, [], ⟨⟨rfl, rfl⟩, ⟨⟨rfl, rfl⟩, ⟨⟨rfl, rfl⟩, ⟨⟨rfl, rfl⟩, ⟨⟨rfl, rfl⟩, ⟨⟨rfl, rfl⟩, ⟨⟨rfl, rfl⟩, trivial⟩⟩⟩⟩⟩⟩⟩, ⟨⟨rfl, rfl, rfl⟩, ⟨⟨rfl, rfl, rfl⟩, trivial⟩⟩, rfl, rfl, rfl⟩, ?_⟩
  · (try dsimp only); exact ⟨Nat.zero_le _, rfl⟩
  rintro ⟨k, ps⟩ hk
  obtain ⟨hk, rfl⟩ : k ≤ rides.length ∧ ps = (ptsAll m l (rides.take k) serial).map e1 := hk
  (try dsimp only)
  have hp8 : ((ptsAll m l (rides.take k) serial).map e1).length = 8 := by rw [List.length_map, ptsAll_len]
  by_cases hkl : k < rides.length
  · obtain ⟨x, hx⟩ := getElem_some hkl
    have hst : ptsAll m l (rides.take (k + 1)) serial = ptStep m l serial (ptsAll m l (rides.take k) serial) x := by rw [take_snoc _ k x hx, ptsAll_snoc]
    have hpb := pts_bnd hR x
    by_cases hs : x.serial = serial
    · cases hf : liftOf m x.lift with
      | none =>
        repeat' ((conv => whnf); first | (refine ⟨fun h => ?_, fun h => ?_⟩ <;> try (exfalso; first | omega | exact absurd h (by decide) | exact h rfl)) | (refine ⟨by omega, fun r hrr => ?_⟩; first | ((have hre : r = encD x := by (first | exact get_row hrr hx | fail)); subst hre)) | (refine ⟨_, lift_h, (m, x.lift), hm, leVs_of_eq rfl, .inl rfl, rfl, ?_⟩; show norm (foundT encL lift0 (liftOf m x.lift)) _; rw [hf]; show norm (.tup [aL lift0, B false]) _) | (refine ⟨(k + 1, _), ⟨?_, by (try dsimp only); omega⟩, [], ⟨⟨rfl, rfl⟩, ⟨⟨rfl, rfl⟩, ⟨⟨rfl, rfl⟩, ⟨⟨rfl, rfl⟩, ⟨⟨rfl, rfl⟩, ⟨⟨rfl, rfl⟩, ⟨⟨rfl, rfl⟩, trivial⟩⟩⟩⟩⟩⟩⟩, ⟨⟨rfl, rfl, rfl⟩, ⟨⟨rfl, rfl, rfl⟩, trivial⟩⟩, rfl, rfl, rfl⟩; (try dsimp only); exact ⟨by omega, by rw [hst, ptStep_none hf]⟩) | refine ⟨⟨by omega, by omega⟩, ?_⟩ | fail)
      | some y =>
        by_cases ho : 1 ≤ y.op ∧ y.op ≤ 8
        · obtain ⟨v, hv⟩ := getElem_some (xs := (ptsAll m l (rides.take k) serial)) (k := (y.op - 1).toNat) (by rw [ptsAll_len]; omega)
          have hvb := ptsAll_bnd hR serial (rides.take k) v (List.mem_of_getElem? hv)
          rw [List.length_take] at hvb
          have gv : ((ptsAll m l (rides.take k) serial).map e1)[(y.op - 1).toNat]? = some [.int .i64 v] := get_e1 hv
          have hset : ((ptsAll m l (rides.take k) serial).map e1).set (y.op - 1).toNat [.int .i64 (v + ptsF l x)] = (ptsAll m l (rides.take (k + 1)) serial).map e1 := by rw [map_set1, hst, ptStep_in hs hf ho hv]
          repeat' ((conv => whnf); first | (refine ⟨fun h => ?_, fun h => ?_⟩ <;> try (exfalso; first | omega | exact absurd h (by decide) | exact h rfl)) | (refine ⟨by omega, fun r hrr => ?_⟩; first | ((have hre : r = encD x := by (first | exact get_row hrr hx | fail)); subst hre)) | (refine ⟨_, lift_h, (m, x.lift), hm, leVs_of_eq rfl, .inl rfl, rfl, ?_⟩; show norm (foundT encL lift0 (liftOf m x.lift)) _; rw [hf]; show norm (.tup [aL y, B true]) _) | (refine ⟨_, pts_h, (l, x), ⟨hll, hR⟩, leVs_of_eq rfl, .inl rfl, rfl, ?_⟩; show norm (I (ptsF l x)) _) | refine get_at gv ?_ | (refine ⟨(k + 1, _), ⟨?_, by (try dsimp only); omega⟩, [], ⟨⟨rfl, rfl⟩, ⟨⟨rfl, rfl⟩, ⟨⟨rfl, rfl⟩, ⟨⟨rfl, rfl⟩, ⟨⟨rfl, rfl⟩, ⟨⟨rfl, rfl⟩, ⟨⟨rfl, rfl⟩, trivial⟩⟩⟩⟩⟩⟩⟩, ⟨⟨rfl, rfl, rfl⟩, ⟨⟨rfl, rfl, rfl⟩, trivial⟩⟩, rfl, rfl, rfl⟩; (try dsimp only); exact ⟨by omega, hset⟩) | refine ⟨⟨by omega, by omega⟩, ?_⟩ | fail)
        · repeat' ((conv => whnf); first | (refine ⟨fun h => ?_, fun h => ?_⟩ <;> try (exfalso; first | omega | exact absurd h (by decide) | exact h rfl)) | (refine ⟨by omega, fun r hrr => ?_⟩; first | ((have hre : r = encD x := by (first | exact get_row hrr hx | fail)); subst hre)) | (refine ⟨_, lift_h, (m, x.lift), hm, leVs_of_eq rfl, .inl rfl, rfl, ?_⟩; show norm (foundT encL lift0 (liftOf m x.lift)) _; rw [hf]; show norm (.tup [aL y, B true]) _) | (refine ⟨(k + 1, _), ⟨?_, by (try dsimp only); omega⟩, [], ⟨⟨rfl, rfl⟩, ⟨⟨rfl, rfl⟩, ⟨⟨rfl, rfl⟩, ⟨⟨rfl, rfl⟩, ⟨⟨rfl, rfl⟩, ⟨⟨rfl, rfl⟩, ⟨⟨rfl, rfl⟩, trivial⟩⟩⟩⟩⟩⟩⟩, ⟨⟨rfl, rfl, rfl⟩, ⟨⟨rfl, rfl, rfl⟩, trivial⟩⟩, rfl, rfl, rfl⟩; (try dsimp only); exact ⟨by omega, by rw [hst, ptStep_out hf ho]⟩) | refine ⟨⟨by omega, by omega⟩, ?_⟩ | fail)
    · repeat' ((conv => whnf); first | (refine ⟨fun h => ?_, fun h => ?_⟩ <;> try (exfalso; first | omega | exact absurd h (by decide) | exact h rfl)) | (refine ⟨by omega, fun r hrr => ?_⟩; first | ((have hre : r = encD x := by (first | exact get_row hrr hx | fail)); subst hre)) | (refine ⟨(k + 1, _), ⟨?_, by (try dsimp only); omega⟩, [], ⟨⟨rfl, rfl⟩, ⟨⟨rfl, rfl⟩, ⟨⟨rfl, rfl⟩, ⟨⟨rfl, rfl⟩, ⟨⟨rfl, rfl⟩, ⟨⟨rfl, rfl⟩, ⟨⟨rfl, rfl⟩, trivial⟩⟩⟩⟩⟩⟩⟩, ⟨⟨rfl, rfl, rfl⟩, ⟨⟨rfl, rfl, rfl⟩, trivial⟩⟩, rfl, rfl, rfl⟩; (try dsimp only); exact ⟨by omega, by rw [hst, ptStep_no hs]⟩) | refine ⟨⟨by omega, by omega⟩, ?_⟩ | fail)
  · rw [take_end hkl]
    repeat' ((conv => whnf); first | (refine ⟨fun h => ?_, fun h => ?_⟩ <;> try (exfalso; first | omega | exact absurd h (by decide) | exact h rfl)) | fail | fail)
    exact ⟨[], rfl, trivial, rfl⟩
theorem points_h : Holds Try.prog 15 pointsS := holds_of mix Try.func15 pointsLow (fun _ => rfl) pointsV

/-! skiarea/skiarearef35.Points -/
def rpointsIr : IFn := ⟨59, [.tmp 8],
  (.seq (.ops [
    ⟨(some 4), .box, [.tmp 0], none⟩,
    ⟨(some 8), .mov, [.const (.slice none 0 0)], none⟩] false)
  (.seq (.ops [
    ⟨(some 13), .mksl 3 1 8 [.int .i64 0], [.const (.int .i64 8), .const (.int .i64 8)], none⟩,
    ⟨(some 9), .mov, [.tmp 13], none⟩] false)
  (.seq (.seq (.ops [
    ⟨(some 10), .mov, [.const (.int .i64 0)], none⟩] false)
  (.block 0
    (.loop
      (.seq (.seq (.ops [
        ⟨(some 14), .mov, [.tmp 10], none⟩,
        ⟨(some 15), .mov, [.tmp 2], none⟩,
        ⟨(some 16), .len, [.tmp 15], none⟩,
        ⟨(some 17), .cmp .lss, [.tmp 14, .tmp 16], none⟩] false)
      (.cond (.tmp 17)
        .skip
        (.exit 0)))
      (.seq (.block 1
        (.seq (.ops [
          ⟨(some 21), .load 4 true, [.tmp 4], none⟩,
          ⟨(some 22), .mov, [.tmp 2], none⟩,
          ⟨(some 23), .mov, [.tmp 10], none⟩,
          ⟨(some 24), .idx 7, [.tmp 22, .tmp 23], none⟩,
          ⟨(some 25), .faddr 5, [.tmp 24], none⟩,
          ⟨(some 26), .load 1 false, [.tmp 25], none⟩,
          ⟨(some 27), .call 31, [.tmp 21, .tmp 26], none⟩,
          ⟨(some 20), .mov, [.tmp 27], none⟩,
          ⟨(some 28), .extract 0, [.tmp 20], none⟩,
          ⟨(some 29), .extract 1, [.tmp 20], none⟩,
          ⟨(some 11), .alloc [.int .i64 0, .int .i64 0, .int .i64 0, .int .i64 0, .int .i64 0, .int .i64 0, .int .i64 0, .int .i64 0], [], none⟩,
          ⟨none, .store 8, [.tmp 11, .tmp 28], none⟩,
          ⟨(some 12), .mov, [.tmp 29], none⟩] true)
        (.seq (.ops [
          ⟨(some 30), .mov, [.tmp 12], none⟩,
          ⟨(some 31), .mov, [.tmp 30], none⟩,
          ⟨(some 32), .mov, [.tmp 2], (some (31, true))⟩,
          ⟨(some 33), .mov, [.tmp 10], (some (31, true))⟩,
          ⟨(some 34), .idx 7, [.tmp 32, .tmp 33], (some (31, true))⟩,
          ⟨(some 35), .faddr 2, [.tmp 34], (some (31, true))⟩,
          ⟨(some 36), .load 1 false, [.tmp 35], (some (31, true))⟩,
          ⟨(some 37), .mov, [.tmp 3], (some (31, true))⟩,
          ⟨(some 38), .cmp .eql, [.tmp 36, .tmp 37], (some (31, true))⟩,
          ⟨(some 39), .pick, [.tmp 31, .tmp 38, .const (.bool false)], none⟩] false)
        (.cond (.tmp 39)
          (.ops [
            ⟨(some 40), .mov, [.tmp 9], none⟩,
            ⟨(some 41), .faddr 1, [.tmp 11], none⟩,
            ⟨(some 42), .load 1 false, [.tmp 41], none⟩,
            ⟨(some 43), .bin .sub .i64 false, [.tmp 42, .const (.int .i64 1)], none⟩,
            ⟨(some 44), .mov, [.tmp 9], none⟩,
            ⟨(some 45), .faddr 1, [.tmp 11], none⟩,
            ⟨(some 46), .load 1 false, [.tmp 45], none⟩,
            ⟨(some 47), .bin .sub .i64 false, [.tmp 46, .const (.int .i64 1)], none⟩,
            ⟨(some 48), .idx 1, [.tmp 44, .tmp 47], none⟩,
            ⟨(some 49), .load 1 false, [.tmp 48], none⟩,
            ⟨(some 50), .mov, [.tmp 1], none⟩,
            ⟨(some 51), .mov, [.tmp 2], none⟩,
            ⟨(some 52), .mov, [.tmp 10], none⟩,
            ⟨(some 53), .idx 7, [.tmp 51, .tmp 52], none⟩,
            ⟨(some 54), .load 7 true, [.tmp 53], none⟩,
            ⟨(some 55), .call 32, [.tmp 50, .tmp 54], none⟩,
            ⟨(some 56), .bin .add .i64 false, [.tmp 49, .tmp 55], none⟩,
            ⟨(some 57), .idx 1, [.tmp 40, .tmp 43], none⟩,
            ⟨none, .store 1, [.tmp 57, .tmp 56], none⟩] true)
          .skip))))
      (.ops [
        ⟨(some 18), .mov, [.tmp 10], none⟩,
        ⟨(some 19), .bin .add .i64 false, [.tmp 18, .const (.int .i64 1)], none⟩,
        ⟨(some 10), .mov, [.tmp 19], none⟩] false))))))
  (.seq (.ops [
    ⟨(some 58), .mov, [.tmp 9], none⟩,
    ⟨(some 8), .mov, [.tmp 58], none⟩] false)
  .ret))))⟩
theorem rpointsLow : lowF Try.prog { owns := [(9, 3)] } Try.f16 = some rpointsIr := by kernel_rfl
def rpointsS : Spec := ⟨Mp × List Tariff × List Ride × Int, fun p => [aM p.1, L 2 (p.2.1.map encT), L 7 (p.2.2.1.map encD), I p.2.2.2], fun p => (okM p.1 ∧ p.2.1.length ≤ 1000000) ∧ Rates p.2.1 ∧ p.2.2.1.length ≤ 100000 ∧ ∀ x ∈ p.1.lifts, 1 ≤ x.op ∧ x.op ≤ 8, fun p => L 1 ((ptsAll p.1 p.2.1 p.2.2.1 p.2.2.2).map e1), fun _ => []⟩
set_option maxHeartbeats 2000000 in
theorem rpointsV : fnV Try.prog rpointsIr rpointsS := by
  intro ⟨(m : Mp), (l : List Tariff), (rides : List Ride), (serial : Int)⟩ hx
  obtain ⟨⟨hm, hll⟩, hR, hlr, hop⟩ : (okM m ∧ l.length ≤ 1000000) ∧ Rates l ∧ rides.length ≤ 100000 ∧ ∀ x ∈ m.lifts, 1 ≤ x.op ∧ x.op ≤ 8 := hx
  have hl : (rides.map encD).length = rides.length := List.length_map ..
  show vc _ _ _ _ ⟨argEnv 0 [aM m, L 2 (l.map encT), L 7 (rides.map encD), I serial], [], 0⟩
  repeat' ((conv => whnf); first | (refine ⟨fun h => ?_, fun h => ?_⟩ <;> try (exfalso; first | omega | exact absurd h (by decide) | exact h rfl)) | (refine ⟨⟨by decide, by decide⟩, ?_⟩) | (refine ⟨⟨by decide, by decide, by decide⟩, ?_⟩) | refine ⟨⟨by omega, by omega⟩, ?_⟩ | fail | fail)
  refine ⟨Nat × (List (List CV)), fun xq => ⟨[(1, L 2 (l.map encT)), (2, L 7 (rides.map encD)), (3, I serial), (4, .bp 0 0), (9, .osl 1), (10, I xq.1)], [(0, .box [L 2 (m.nodes.map encN), L 8 (m.lifts.map encL), L 7 (m.runs.map encU), L 1 (m.bases.map e1)]), (1, .row 3 1 xq.2)], 2⟩, fun xq => xq.1 ≤ rides.length ∧ xq.2 = (ptsAll m l (rides.take xq.1) serial).map e1, fun xq => rides.length - xq.1, ⟨(0, _), ?_, [], ⟨⟨rfl, rfl⟩, ⟨⟨rfl, rfl⟩, ⟨⟨rfl, rfl⟩, ⟨⟨rfl, rfl⟩, ⟨⟨rfl, rfl⟩, ⟨⟨rfl, rfl⟩, trivial⟩⟩⟩⟩⟩⟩, ⟨⟨rfl, rfl, rfl⟩, ⟨⟨rfl, rfl, rfl⟩, trivial⟩⟩, rfl, rfl, rfl⟩, ?_⟩
  · (try dsimp only); exact ⟨Nat.zero_le _, rfl⟩
  rintro ⟨k, ps⟩ hk
  obtain ⟨hk, rfl⟩ : k ≤ rides.length ∧ ps = (ptsAll m l (rides.take k) serial).map e1 := hk
  (try dsimp only)
  have hp8 : ((ptsAll m l (rides.take k) serial).map e1).length = 8 := by rw [List.length_map, ptsAll_len]
  by_cases hkl : k < rides.length
  · obtain ⟨x, hx⟩ := getElem_some hkl
    have hst : ptsAll m l (rides.take (k + 1)) serial = ptStep m l serial (ptsAll m l (rides.take k) serial) x := by rw [take_snoc _ k x hx, ptsAll_snoc]
    have hpb := pts_bnd hR x
    by_cases hs : x.serial = serial
    · cases hf : liftOf m x.lift with
      | none =>
        repeat' ((conv => whnf); first | (refine ⟨fun h => ?_, fun h => ?_⟩ <;> try (exfalso; first | omega | exact absurd h (by decide) | exact h rfl)) | (refine ⟨by omega, fun r hrr => ?_⟩; first | ((have hre : r = encD x := by (first | exact get_row hrr hx | fail)); subst hre)) | (refine ⟨_, rlift_h, (m, x.lift), hm, leVs_of_eq rfl, .inl rfl, rfl, ?_⟩; show norm (foundT encL lift0 (liftOf m x.lift)) _; rw [hf]; show norm (.tup [aL lift0, B false]) _) | (refine ⟨(k + 1, _), ⟨?_, by (try dsimp only); omega⟩, [], ⟨⟨rfl, rfl⟩, ⟨⟨rfl, rfl⟩, ⟨⟨rfl, rfl⟩, ⟨⟨rfl, rfl⟩, ⟨⟨rfl, rfl⟩, ⟨⟨rfl, rfl⟩, trivial⟩⟩⟩⟩⟩⟩, ⟨⟨rfl, rfl, rfl⟩, ⟨⟨rfl, rfl, rfl⟩, trivial⟩⟩, rfl, rfl, rfl⟩; (try dsimp only); exact ⟨by omega, by rw [hst, ptStep_none hf]⟩) | refine ⟨⟨by omega, by omega⟩, ?_⟩ | fail)
      | some y =>
        have ho := hop y (List.mem_of_find?_eq_some hf)
        · obtain ⟨v, hv⟩ := getElem_some (xs := (ptsAll m l (rides.take k) serial)) (k := (y.op - 1).toNat) (by rw [ptsAll_len]; omega)
          have hvb := ptsAll_bnd hR serial (rides.take k) v (List.mem_of_getElem? hv)
          rw [List.length_take] at hvb
          have gv : ((ptsAll m l (rides.take k) serial).map e1)[(y.op - 1).toNat]? = some [.int .i64 v] := get_e1 hv
          have hset : ((ptsAll m l (rides.take k) serial).map e1).set (y.op - 1).toNat [.int .i64 (v + ptsF l x)] = (ptsAll m l (rides.take (k + 1)) serial).map e1 := by rw [map_set1, hst, ptStep_in hs hf ho hv]
          repeat' ((conv => whnf); first | (refine ⟨fun h => ?_, fun h => ?_⟩ <;> try (exfalso; first | omega | exact absurd h (by decide) | exact h rfl)) | (refine ⟨by omega, fun r hrr => ?_⟩; first | ((have hre : r = encD x := by (first | exact get_row hrr hx | fail)); subst hre)) | (refine ⟨_, rlift_h, (m, x.lift), hm, leVs_of_eq rfl, .inl rfl, rfl, ?_⟩; show norm (foundT encL lift0 (liftOf m x.lift)) _; rw [hf]; show norm (.tup [aL y, B true]) _) | (refine ⟨_, rpts_h, (l, x), ⟨hll, hR⟩, leVs_of_eq rfl, .inl rfl, rfl, ?_⟩; show norm (I (ptsF l x)) _) | refine get_at gv ?_ | (refine ⟨(k + 1, _), ⟨?_, by (try dsimp only); omega⟩, [], ⟨⟨rfl, rfl⟩, ⟨⟨rfl, rfl⟩, ⟨⟨rfl, rfl⟩, ⟨⟨rfl, rfl⟩, ⟨⟨rfl, rfl⟩, ⟨⟨rfl, rfl⟩, trivial⟩⟩⟩⟩⟩⟩, ⟨⟨rfl, rfl, rfl⟩, ⟨⟨rfl, rfl, rfl⟩, trivial⟩⟩, rfl, rfl, rfl⟩; (try dsimp only); exact ⟨by omega, hset⟩) | refine ⟨⟨by omega, by omega⟩, ?_⟩ | fail)
    · cases hf : liftOf m x.lift with
      | none => repeat' ((conv => whnf); first | (refine ⟨fun h => ?_, fun h => ?_⟩ <;> try (exfalso; first | omega | exact absurd h (by decide) | exact h rfl)) | (refine ⟨by omega, fun r hrr => ?_⟩; first | ((have hre : r = encD x := by (first | exact get_row hrr hx | fail)); subst hre)) | (refine ⟨_, rlift_h, (m, x.lift), hm, leVs_of_eq rfl, .inl rfl, rfl, ?_⟩; show norm (foundT encL lift0 (liftOf m x.lift)) _; rw [hf]; show norm (.tup [aL lift0, B false]) _) | (refine ⟨(k + 1, _), ⟨?_, by (try dsimp only); omega⟩, [], ⟨⟨rfl, rfl⟩, ⟨⟨rfl, rfl⟩, ⟨⟨rfl, rfl⟩, ⟨⟨rfl, rfl⟩, ⟨⟨rfl, rfl⟩, ⟨⟨rfl, rfl⟩, trivial⟩⟩⟩⟩⟩⟩, ⟨⟨rfl, rfl, rfl⟩, ⟨⟨rfl, rfl, rfl⟩, trivial⟩⟩, rfl, rfl, rfl⟩; (try dsimp only); exact ⟨by omega, by rw [hst, ptStep_no hs]⟩) | refine ⟨⟨by omega, by omega⟩, ?_⟩ | fail)
      | some y => repeat' ((conv => whnf); first | (refine ⟨fun h => ?_, fun h => ?_⟩ <;> try (exfalso; first | omega | exact absurd h (by decide) | exact h rfl)) | (refine ⟨by omega, fun r hrr => ?_⟩; first | ((have hre : r = encD x := by (first | exact get_row hrr hx | fail)); subst hre)) | (refine ⟨_, rlift_h, (m, x.lift), hm, leVs_of_eq rfl, .inl rfl, rfl, ?_⟩; show norm (foundT encL lift0 (liftOf m x.lift)) _; rw [hf]; show norm (.tup [aL y, B true]) _) | (refine ⟨(k + 1, _), ⟨?_, by (try dsimp only); omega⟩, [], ⟨⟨rfl, rfl⟩, ⟨⟨rfl, rfl⟩, ⟨⟨rfl, rfl⟩, ⟨⟨rfl, rfl⟩, ⟨⟨rfl, rfl⟩, ⟨⟨rfl, rfl⟩, trivial⟩⟩⟩⟩⟩⟩, ⟨⟨rfl, rfl, rfl⟩, ⟨⟨rfl, rfl, rfl⟩, trivial⟩⟩, rfl, rfl, rfl⟩; (try dsimp only); exact ⟨by omega, by rw [hst, ptStep_no hs]⟩) | refine ⟨⟨by omega, by omega⟩, ?_⟩ | fail)
  · rw [take_end hkl]
    repeat' ((conv => whnf); first | (refine ⟨fun h => ?_, fun h => ?_⟩ <;> try (exfalso; first | omega | exact absurd h (by decide) | exact h rfl)) | fail | fail)
    exact ⟨[], rfl, trivial, rfl⟩
theorem rpoints_h : Holds Try.prog 16 rpointsS := holds_of mix Try.func16 rpointsLow (fun _ => rfl) rpointsV

end Go.Proofs.Ytbglmocgijlomaa
