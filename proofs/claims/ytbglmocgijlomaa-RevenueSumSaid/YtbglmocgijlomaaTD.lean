/- Rides: the reference's Right; the points of the operators. -/
import Derived.Test.YtbglmocgijlomaaTC
import Derived.Test.YtbglmocgijlomaaTA
import Derived.Test.YtbglmocgijlomaaT5
namespace Go.Proofs.Ytbglmocgijlomaa
open Go.RowKit

/-! skiarea/skiarearef10.SameInts -/
def sameIIr : IFn := ⟨26, [.tmp 4],
  (.seq (.ops [
    ⟨(some 4), .mov, [.const (.bool false)], none⟩] false)
  (.seq (.seq (.ops [
    ⟨(some 6), .mov, [.tmp 0], none⟩,
    ⟨(some 7), .len, [.tmp 6], none⟩,
    ⟨(some 8), .mov, [.tmp 1], none⟩,
    ⟨(some 9), .len, [.tmp 8], none⟩,
    ⟨(some 10), .cmp .neq, [.tmp 7, .tmp 9], none⟩] false)
  (.cond (.tmp 10)
    (.seq (.ops [
      ⟨(some 4), .mov, [.const (.bool false)], none⟩] false)
    .ret)
    .skip))
  (.seq (.seq (.ops [
    ⟨(some 5), .mov, [.const (.int .i64 0)], none⟩] false)
  (.block 0
    (.loop
      (.seq (.seq (.ops [
        ⟨(some 11), .mov, [.tmp 5], none⟩,
        ⟨(some 12), .mov, [.tmp 0], none⟩,
        ⟨(some 13), .len, [.tmp 12], none⟩,
        ⟨(some 14), .cmp .lss, [.tmp 11, .tmp 13], none⟩] false)
      (.cond (.tmp 14)
        .skip
        (.exit 0)))
      (.seq (.block 1
        (.seq (.ops [
          ⟨(some 17), .mov, [.tmp 0], none⟩,
          ⟨(some 18), .mov, [.tmp 5], none⟩,
          ⟨(some 19), .idx 1, [.tmp 17, .tmp 18], none⟩,
          ⟨(some 20), .load 1 false, [.tmp 19], none⟩,
          ⟨(some 21), .mov, [.tmp 1], none⟩,
          ⟨(some 22), .mov, [.tmp 5], none⟩,
          ⟨(some 23), .idx 1, [.tmp 21, .tmp 22], none⟩,
          ⟨(some 24), .load 1 false, [.tmp 23], none⟩,
          ⟨(some 25), .cmp .neq, [.tmp 20, .tmp 24], none⟩] true)
        (.cond (.tmp 25)
          (.seq (.ops [
            ⟨(some 4), .mov, [.const (.bool false)], none⟩] false)
          .ret)
          .skip)))
      (.ops [
        ⟨(some 15), .mov, [.tmp 5], none⟩,
        ⟨(some 16), .bin .add .i64 false, [.tmp 15, .const (.int .i64 1)], none⟩,
        ⟨(some 5), .mov, [.tmp 16], none⟩] false))))))
  (.seq (.ops [
    ⟨(some 4), .mov, [.const (.bool true)], none⟩] false)
  .ret))))⟩
theorem sameILow : lowF Try.prog {} Try.f14 = some sameIIr := by kernel_rfl
def sameIS : Spec := spec (List Int × List Int) (fun p => [L 1 (p.1.map e1), L 1 (p.2.map e1)]) (fun p => p.1.length ≤ 9223372036854775807) (fun p => B (decide (p.1 = p.2)))
theorem sameIV : fnV Try.prog sameIIr sameIS := by
  intro ⟨(xs : List Int), (ys : List Int)⟩ hx
  replace hx : xs.length ≤ 9223372036854775807 := hx
  have hl : (xs.map e1).length = xs.length := List.length_map ..
  have hl2 : (ys.map e1).length = ys.length := List.length_map ..
  conv => whnf
  refine ⟨fun h => ?_, fun h => ?_⟩
  · conv => whnf
    refine ⟨[], rfl, trivial, congrArg CV.bool ?_⟩
    exact (decide_eq_false fun (e : xs = ys) => h (by subst e; rfl)).symm
  have he : xs.length = ys.length := by have h : ((xs.map e1).length : Int) = (ys.map e1).length := Decidable.not_not.1 h; omega
  conv => whnf
  refine ⟨Nat, fun xq => ⟨[(0, L 1 (xs.map e1)), (1, L 1 (ys.map e1)), (5, I xq)], [], 0⟩, fun xq => xq ≤ xs.length ∧ xs.take xq = ys.take xq, fun xq => xs.length - xq, ⟨0, ?_, [], ⟨⟨rfl, rfl⟩, ⟨⟨rfl, rfl⟩, ⟨⟨rfl, rfl⟩, trivial⟩⟩⟩, trivial, rfl, rfl, rfl⟩, ?_⟩
  · (try dsimp only); exact ⟨Nat.zero_le _, by simp⟩
  rintro k hk
  obtain ⟨hk, hr⟩ : k ≤ xs.length ∧ xs.take k = ys.take k := hk
  (try dsimp only)
  conv => whnf
  refine ⟨fun h => ?_, fun h => ?_⟩
  · replace h : (k : Int) < ((xs.map e1).length : Int) := h
    conv => whnf
    refine ⟨by omega, fun r hr' => ?_⟩
    obtain ⟨x, hx', rfl⟩ := map_get hr'
    rw [Int.toNat_natCast] at hx'
    conv => whnf
    refine ⟨by omega, fun r hr' => ?_⟩
    obtain ⟨y, hy', rfl⟩ := map_get hr'
    rw [Int.toNat_natCast] at hy'
    conv => whnf
    refine ⟨fun hc => ?_, fun hc => ?_⟩
    · conv => whnf
      refine ⟨[], rfl, trivial, congrArg CV.bool ?_⟩
      exact (decide_eq_false (ne_at hx' hy' (fun e => hc (by subst e; rfl)))).symm
    · conv => whnf
      refine ⟨⟨by omega, by omega⟩, ?_⟩
      conv => whnf
      (refine ⟨k + 1, ⟨?_, by (try dsimp only); omega⟩, [], ⟨⟨rfl, rfl⟩, ⟨⟨rfl, rfl⟩, ⟨⟨rfl, rfl⟩, trivial⟩⟩⟩, trivial, rfl, rfl, rfl⟩; (try dsimp only); exact ⟨by omega, take_step hr hx' hy' (Decidable.not_not.1 hc)⟩)
  · conv => whnf
    refine ⟨[], rfl, trivial, congrArg CV.bool ?_⟩
    exact (decide_eq_true (take_all hr (by omega) (by omega))).symm
theorem sameI_h : Holds Try.prog 14 sameIS := holds_of mix Try.func14 sameILow (fun _ => rfl) sameIV

/-! skiarea/skiarearef31.ranges -/
def rrangesIr : IFn := ⟨71, [.tmp 2],
  (.seq (.ops [
    ⟨(some 1), .box, [.tmp 0], none⟩,
    ⟨(some 2), .mov, [.const (.bool false)], none⟩] false)
  (.seq (.ops [
    ⟨(some 3), .faddr 0, [.tmp 1], none⟩,
    ⟨(some 4), .load 1 false, [.tmp 3], none⟩,
    ⟨(some 5), .cmp .geq, [.tmp 4, .const (.int .i64 1)], none⟩,
    ⟨(some 6), .mov, [.tmp 5], none⟩,
    ⟨(some 7), .faddr 0, [.tmp 1], (some (6, true))⟩,
    ⟨(some 8), .load 1 false, [.tmp 7], (some (6, true))⟩,
    ⟨(some 9), .cmp .leq, [.tmp 8, .const (.int .i64 9999)], (some (6, true))⟩,
    ⟨(some 10), .pick, [.tmp 6, .tmp 9, .const (.bool false)], none⟩,
    ⟨(some 11), .mov, [.tmp 10], none⟩,
    ⟨(some 12), .faddr 2, [.tmp 1], (some (11, true))⟩,
    ⟨(some 13), .load 1 false, [.tmp 12], (some (11, true))⟩,
    ⟨(some 14), .cmp .geq, [.tmp 13, .const (.int .i64 1)], (some (11, true))⟩,
    ⟨(some 15), .pick, [.tmp 11, .tmp 14, .const (.bool false)], none⟩,
    ⟨(some 16), .mov, [.tmp 15], none⟩,
    ⟨(some 17), .faddr 2, [.tmp 1], (some (16, true))⟩,
    ⟨(some 18), .load 1 false, [.tmp 17], (some (16, true))⟩,
    ⟨(some 19), .cmp .leq, [.tmp 18, .const (.int .i64 9999)], (some (16, true))⟩,
    ⟨(some 20), .pick, [.tmp 16, .tmp 19, .const (.bool false)], none⟩,
    ⟨(some 21), .mov, [.tmp 20], none⟩,
    ⟨(some 22), .faddr 4, [.tmp 1], (some (21, true))⟩,
    ⟨(some 23), .load 1 false, [.tmp 22], (some (21, true))⟩,
    ⟨(some 24), .cmp .geq, [.tmp 23, .const (.int .i64 1)], (some (21, true))⟩,
    ⟨(some 25), .pick, [.tmp 21, .tmp 24, .const (.bool false)], none⟩,
    ⟨(some 26), .mov, [.tmp 25], none⟩,
    ⟨(some 27), .faddr 4, [.tmp 1], (some (26, true))⟩,
    ⟨(some 28), .load 1 false, [.tmp 27], (some (26, true))⟩,
    ⟨(some 29), .cmp .leq, [.tmp 28, .const (.int .i64 9999)], (some (26, true))⟩,
    ⟨(some 30), .pick, [.tmp 26, .tmp 29, .const (.bool false)], none⟩,
    ⟨(some 31), .mov, [.tmp 30], none⟩,
    ⟨(some 32), .faddr 5, [.tmp 1], (some (31, true))⟩,
    ⟨(some 33), .load 1 false, [.tmp 32], (some (31, true))⟩,
    ⟨(some 34), .cmp .geq, [.tmp 33, .const (.int .i64 1)], (some (31, true))⟩,
    ⟨(some 35), .pick, [.tmp 31, .tmp 34, .const (.bool false)], none⟩,
    ⟨(some 36), .mov, [.tmp 35], none⟩,
    ⟨(some 37), .faddr 5, [.tmp 1], (some (36, true))⟩,
    ⟨(some 38), .load 1 false, [.tmp 37], (some (36, true))⟩,
    ⟨(some 39), .cmp .leq, [.tmp 38, .const (.int .i64 9999)], (some (36, true))⟩,
    ⟨(some 40), .pick, [.tmp 36, .tmp 39, .const (.bool false)], none⟩,
    ⟨(some 41), .mov, [.tmp 40], none⟩,
    ⟨(some 42), .faddr 1, [.tmp 1], (some (41, true))⟩,
    ⟨(some 43), .load 1 false, [.tmp 42], (some (41, true))⟩,
    ⟨(some 44), .cmp .geq, [.tmp 43, .const (.int .i64 1)], (some (41, true))⟩,
    ⟨(some 45), .pick, [.tmp 41, .tmp 44, .const (.bool false)], none⟩,
    ⟨(some 46), .mov, [.tmp 45], none⟩,
    ⟨(some 47), .faddr 1, [.tmp 1], (some (46, true))⟩,
    ⟨(some 48), .load 1 false, [.tmp 47], (some (46, true))⟩,
    ⟨(some 49), .cmp .leq, [.tmp 48, .const (.int .i64 1000000)], (some (46, true))⟩,
    ⟨(some 50), .pick, [.tmp 46, .tmp 49, .const (.bool false)], none⟩,
    ⟨(some 51), .mov, [.tmp 50], none⟩,
    ⟨(some 52), .faddr 3, [.tmp 1], (some (51, true))⟩,
    ⟨(some 53), .load 1 false, [.tmp 52], (some (51, true))⟩,
    ⟨(some 54), .cmp .geq, [.tmp 53, .const (.int .i64 1)], (some (51, true))⟩,
    ⟨(some 55), .pick, [.tmp 51, .tmp 54, .const (.bool false)], none⟩,
    ⟨(some 56), .mov, [.tmp 55], none⟩,
    ⟨(some 57), .faddr 3, [.tmp 1], (some (56, true))⟩,
    ⟨(some 58), .load 1 false, [.tmp 57], (some (56, true))⟩,
    ⟨(some 59), .cmp .leq, [.tmp 58, .const (.int .i64 1000000)], (some (56, true))⟩,
    ⟨(some 60), .pick, [.tmp 56, .tmp 59, .const (.bool false)], none⟩,
    ⟨(some 61), .mov, [.tmp 60], none⟩,
    ⟨(some 62), .faddr 6, [.tmp 1], (some (61, true))⟩,
    ⟨(some 63), .load 1 false, [.tmp 62], (some (61, true))⟩,
    ⟨(some 64), .cmp .geq, [.tmp 63, .const (.int .i64 0)], (some (61, true))⟩,
    ⟨(some 65), .pick, [.tmp 61, .tmp 64, .const (.bool false)], none⟩,
    ⟨(some 66), .mov, [.tmp 65], none⟩,
    ⟨(some 67), .faddr 6, [.tmp 1], (some (66, true))⟩,
    ⟨(some 68), .load 1 false, [.tmp 67], (some (66, true))⟩,
    ⟨(some 69), .cmp .leq, [.tmp 68, .const (.int .i64 20000000)], (some (66, true))⟩,
    ⟨(some 70), .pick, [.tmp 66, .tmp 69, .const (.bool false)], none⟩,
    ⟨(some 2), .mov, [.tmp 70], none⟩] false)
  .ret))⟩
theorem rrangesLow : lowF Try.prog {} Try.f45 = some rrangesIr := by kernel_rfl
def rrangesS : Spec := spec Ride (fun r => [aD r]) (fun _ => True) (fun r => B (decide (rideP r)))
theorem rrangesV : fnV Try.prog rrangesIr rrangesS := by
  intro (r : Ride) _
  show vc _ _ _ _ ⟨argEnv 0 [aD r], [], 0⟩
  have hp : rideP r = ((1 ≤ r.gate ∧ r.gate ≤ 9999) ∧ (1 ≤ r.serial ∧ r.serial ≤ 9999) ∧ (1 ≤ r.product ∧ r.product ≤ 9999) ∧ (1 ≤ r.lift ∧ r.lift ≤ 9999) ∧ (1 ≤ r.seq ∧ r.seq ≤ 1000000) ∧ (1 ≤ r.counter ∧ r.counter ≤ 1000000) ∧ 0 ≤ r.time ∧ r.time ≤ 20000000) := rfl
  repeat' ((conv => whnf); first | (refine ⟨fun h => ?_, fun h => ?_⟩ <;> try (exfalso; first | omega | exact absurd h (by decide) | exact h rfl)) | refine ⟨[], rfl, trivial, congrArg CV.bool ?_⟩ | fail)
  all_goals first | exact (decide_eq_true (by rw [hp]; omega)).symm | exact (decide_eq_false (by rw [hp]; omega)).symm
theorem rranges_h : Holds Try.prog 45 rrangesS := holds_of mix Try.func45 rrangesLow (fun _ => rfl) rrangesV

/-! skiarea/skiarearef31.before -/
def rbeforeIr : IFn := ⟨24, [.tmp 4],
  (.seq (.ops [
    ⟨(some 2), .box, [.tmp 0], none⟩,
    ⟨(some 3), .box, [.tmp 1], none⟩,
    ⟨(some 4), .mov, [.const (.bool false)], none⟩] false)
  (.seq (.ops [
    ⟨(some 5), .faddr 0, [.tmp 2], none⟩,
    ⟨(some 6), .load 1 false, [.tmp 5], none⟩,
    ⟨(some 7), .faddr 0, [.tmp 3], none⟩,
    ⟨(some 8), .load 1 false, [.tmp 7], none⟩,
    ⟨(some 9), .cmp .lss, [.tmp 6, .tmp 8], none⟩,
    ⟨(some 10), .mov, [.tmp 9], none⟩,
    ⟨(some 11), .faddr 0, [.tmp 2], (some (10, false))⟩,
    ⟨(some 12), .load 1 false, [.tmp 11], (some (10, false))⟩,
    ⟨(some 13), .faddr 0, [.tmp 3], (some (10, false))⟩,
    ⟨(some 14), .load 1 false, [.tmp 13], (some (10, false))⟩,
    ⟨(some 15), .cmp .eql, [.tmp 12, .tmp 14], (some (10, false))⟩,
    ⟨(some 16), .mov, [.tmp 15], (some (10, false))⟩,
    ⟨(some 17), .faddr 1, [.tmp 2], (some (16, true))⟩,
    ⟨(some 18), .load 1 false, [.tmp 17], (some (16, true))⟩,
    ⟨(some 19), .faddr 1, [.tmp 3], (some (16, true))⟩,
    ⟨(some 20), .load 1 false, [.tmp 19], (some (16, true))⟩,
    ⟨(some 21), .cmp .lss, [.tmp 18, .tmp 20], (some (16, true))⟩,
    ⟨(some 22), .pick, [.tmp 16, .tmp 21, .const (.bool false)], (some (10, false))⟩,
    ⟨(some 23), .pick, [.tmp 10, .const (.bool true), .tmp 22], none⟩,
    ⟨(some 4), .mov, [.tmp 23], none⟩] false)
  .ret))⟩
theorem rbeforeLow : lowF Try.prog {} Try.f46 = some rbeforeIr := by kernel_rfl
def rbeforeS : Spec := spec (Ride × Ride) (fun p => [aD p.1, aD p.2]) (fun _ => True) (fun p => B (decide (befD p.1 p.2)))
theorem rbeforeV : fnV Try.prog rbeforeIr rbeforeS := by
  intro ⟨(a : Ride), (b : Ride)⟩ _
  show vc _ _ _ _ ⟨argEnv 0 [aD a, aD b], [], 0⟩
  have hp : befD a b = (a.gate < b.gate ∨ (a.gate = b.gate ∧ a.seq < b.seq)) := rfl
  repeat' ((conv => whnf); first | (refine ⟨fun h => ?_, fun h => ?_⟩ <;> try (exfalso; first | omega | exact absurd h (by decide) | exact h rfl)) | refine ⟨[], rfl, trivial, congrArg CV.bool ?_⟩ | fail)
  all_goals first | exact (decide_eq_true (show befD a b by rw [hp]; omega)).symm | exact (decide_eq_false (show ¬ befD a b by rw [hp]; omega)).symm
theorem rbefore_h : Holds Try.prog 46 rbeforeS := holds_of mix Try.func46 rbeforeLow (fun _ => rfl) rbeforeV

/-! skiarea/skiarearef31.Right -/
def rridesIr : IFn := ⟨34, [.tmp 2],
  (.seq (.ops [
    ⟨(some 2), .mov, [.const (.int .i64 0)], none⟩] false)
  (.seq (.seq (.ops [
    ⟨(some 4), .mov, [.tmp 0], none⟩,
    ⟨(some 5), .len, [.tmp 4], none⟩,
    ⟨(some 6), .cmp .gtr, [.tmp 5, .const (.int .i64 2000)], none⟩] false)
  (.cond (.tmp 6)
    (.seq (.ops [
      ⟨(some 2), .mov, [.const (.int .i64 4)], none⟩] false)
    .ret)
    .skip))
  (.seq (.seq (.ops [
    ⟨(some 3), .mov, [.const (.int .i64 0)], none⟩] false)
  (.block 0
    (.loop
      (.seq (.seq (.ops [
        ⟨(some 7), .mov, [.tmp 3], none⟩,
        ⟨(some 8), .mov, [.tmp 0], none⟩,
        ⟨(some 9), .len, [.tmp 8], none⟩,
        ⟨(some 10), .cmp .lss, [.tmp 7, .tmp 9], none⟩] false)
      (.cond (.tmp 10)
        .skip
        (.exit 0)))
      (.seq (.block 1
        (.seq (.seq (.ops [
          ⟨(some 13), .mov, [.tmp 0], none⟩,
          ⟨(some 14), .mov, [.tmp 3], none⟩,
          ⟨(some 15), .idx 7, [.tmp 13, .tmp 14], none⟩,
          ⟨(some 16), .load 7 true, [.tmp 15], none⟩,
          ⟨(some 17), .call 45, [.tmp 16], none⟩,
          ⟨(some 18), .not, [.tmp 17], none⟩] false)
        (.cond (.tmp 18)
          (.seq (.ops [
            ⟨(some 2), .mov, [.const (.int .i64 2)], none⟩] false)
          .ret)
          .skip))
        (.seq (.ops [
          ⟨(some 19), .mov, [.tmp 3], none⟩,
          ⟨(some 20), .cmp .gtr, [.tmp 19, .const (.int .i64 0)], none⟩,
          ⟨(some 21), .mov, [.tmp 20], none⟩,
          ⟨(some 22), .mov, [.tmp 0], (some (21, true))⟩,
          ⟨(some 23), .mov, [.tmp 3], (some (21, true))⟩,
          ⟨(some 24), .bin .sub .i64 false, [.tmp 23, .const (.int .i64 1)], (some (21, true))⟩,
          ⟨(some 25), .idx 7, [.tmp 22, .tmp 24], (some (21, true))⟩,
          ⟨(some 26), .load 7 true, [.tmp 25], (some (21, true))⟩,
          ⟨(some 27), .mov, [.tmp 0], (some (21, true))⟩,
          ⟨(some 28), .mov, [.tmp 3], (some (21, true))⟩,
          ⟨(some 29), .idx 7, [.tmp 27, .tmp 28], (some (21, true))⟩,
          ⟨(some 30), .load 7 true, [.tmp 29], (some (21, true))⟩,
          ⟨(some 31), .call 46, [.tmp 26, .tmp 30], (some (21, true))⟩,
          ⟨(some 32), .not, [.tmp 31], (some (21, true))⟩,
          ⟨(some 33), .pick, [.tmp 21, .tmp 32, .const (.bool false)], none⟩] true)
        (.cond (.tmp 33)
          (.seq (.ops [
            ⟨(some 2), .mov, [.const (.int .i64 11)], none⟩] false)
          .ret)
          .skip))))
      (.ops [
        ⟨(some 11), .mov, [.tmp 3], none⟩,
        ⟨(some 12), .bin .add .i64 false, [.tmp 11, .const (.int .i64 1)], none⟩,
        ⟨(some 3), .mov, [.tmp 12], none⟩] false))))))
  (.seq (.ops [
    ⟨(some 2), .mov, [.const (.int .i64 0)], none⟩] false)
  .ret))))⟩
theorem rridesLow : lowF Try.prog {} Try.f28 = some rridesIr := by kernel_rfl
def rridesS : Spec := spec (List Ride) (fun l => [L 7 (l.map encD)]) (fun l => l.length ≤ 1000000) (fun l => I (ridesE l))
theorem rridesV : fnV Try.prog rridesIr rridesS := by
  intro (l : List Ride) hx
  replace hx : l.length ≤ 1000000 := hx
  have hl : (l.map encD).length = l.length := List.length_map ..
  show vc _ _ _ _ ⟨argEnv 0 [L 7 (l.map encD)], [], 0⟩
  by_cases hb : 2000 < l.length
  · repeat' ((conv => whnf); first | (refine ⟨fun h => ?_, fun h => ?_⟩ <;> try (exfalso; first | omega | exact absurd h (by decide) | exact h rfl)) | fail | fail)
    all_goals (refine ⟨[], rfl, trivial, congrArg (CV.int .i64) ?_⟩; exact ((show ridesE l = 4 from if_pos hb)).symm)
  have hT : ridesE l = fe (rideE l) l.length := if_neg hb
  repeat' ((conv => whnf); first | (refine ⟨fun h => ?_, fun h => ?_⟩ <;> try (exfalso; first | omega | exact absurd h (by decide) | exact h rfl)) | fail | fail)
  refine ⟨Nat, fun xq => ⟨[(0, L 7 (l.map encD)), (3, I xq)], [], 0⟩, fun xq => xq ≤ l.length ∧ fe (rideE l) xq = 0, fun xq => l.length - xq, ⟨0, ?_, [], ⟨⟨rfl, rfl⟩, ⟨⟨rfl, rfl⟩, trivial⟩⟩, trivial, rfl, rfl, rfl⟩, ?_⟩
  · (try dsimp only); exact ⟨Nat.zero_le _, rfl⟩
  rintro k hk
  obtain ⟨hk, h0⟩ : k ≤ l.length ∧ fe (rideE l) k = 0 := hk
  (try dsimp only)
  by_cases hkl : k < l.length
  · obtain ⟨x, hx⟩ := getElem_some hkl
    have hE : rideE l k = if ¬ rideP x then 2 else if 0 < k ∧ ¬ befD (at_ l ride0 (k - 1)) x then 11 else 0 := by unfold rideE; rw [at_of hx]
    cases hd : decide (rideP x) with
    | false =>
      repeat' ((conv => whnf); first | (refine ⟨fun h => ?_, fun h => ?_⟩ <;> try (exfalso; first | omega | exact absurd h (by decide) | exact h rfl)) | (refine ⟨by omega, fun r hrr => ?_⟩; first | ((have hre : r = encD x := by (first | exact get_row hrr hx | fail)); subst hre)) | (refine ⟨_, rranges_h, x, trivial, leVs_of_eq rfl, .inl rfl, rfl, ?_⟩; show norm (B (decide (rideP x))) _; rw [hd]) | fail | fail)
      all_goals (refine ⟨[], rfl, trivial, congrArg (CV.int .i64) ?_⟩; exact (hT.trans (fe_hit hkl h0 (hE.trans (if_pos (of_decide_eq_false hd))) (by decide))).symm)
    | true =>
      rw [if_neg (Decidable.not_not.2 (of_decide_eq_true hd))] at hE
      by_cases hk0 : k = 0
      · subst hk0
        repeat' ((conv => whnf); first | (refine ⟨fun h => ?_, fun h => ?_⟩ <;> try (exfalso; first | omega | exact absurd h (by decide) | exact h rfl)) | (refine ⟨by omega, fun r hrr => ?_⟩; first | ((have hre : r = encD x := by (first | exact get_row hrr hx | fail)); subst hre)) | (refine ⟨_, rranges_h, x, trivial, leVs_of_eq rfl, .inl rfl, rfl, ?_⟩; show norm (B (decide (rideP x))) _; rw [hd]) | (refine ⟨_ + 1, ⟨?_, by (try dsimp only); omega⟩, [], ⟨⟨rfl, rfl⟩, ⟨⟨rfl, rfl⟩, trivial⟩⟩, trivial, rfl, rfl, rfl⟩; (try dsimp only); exact ⟨by omega, fe_go h0 (hE.trans (if_neg fun h => by omega))⟩) | refine ⟨⟨by omega, by omega⟩, ?_⟩ | fail)
      · obtain ⟨y, hy⟩ := getElem_some (show k - 1 < l.length by omega)
        rw [at_of hy] at hE
        cases hf : decide (befD y x) with
        | false =>
          repeat' ((conv => whnf); first | (refine ⟨fun h => ?_, fun h => ?_⟩ <;> try (exfalso; first | omega | exact absurd h (by decide) | exact h rfl)) | (refine ⟨by omega, fun r hrr => ?_⟩; first | ((have hre : r = encD x := by (first | exact get_row hrr hx | fail)); subst hre) | ((have hre : r = encD y := by (first | exact get_rowi (j := k - 1) hrr (by omega) hy | fail)); subst hre)) | (refine ⟨_, rranges_h, x, trivial, leVs_of_eq rfl, .inl rfl, rfl, ?_⟩; show norm (B (decide (rideP x))) _; rw [hd]) | (refine ⟨_, rbefore_h, (y, x), trivial, leVs_of_eq rfl, .inl rfl, rfl, ?_⟩; show norm (B (decide (befD y x))) _; rw [hf]) | refine ⟨⟨by omega, by omega⟩, ?_⟩ | fail | fail)
          all_goals (refine ⟨[], rfl, trivial, congrArg (CV.int .i64) ?_⟩; exact (hT.trans (fe_hit hkl h0 (hE.trans (if_pos ⟨by omega, of_decide_eq_false hf⟩)) (by decide))).symm)
        | true =>
          repeat' ((conv => whnf); first | (refine ⟨fun h => ?_, fun h => ?_⟩ <;> try (exfalso; first | omega | exact absurd h (by decide) | exact h rfl)) | (refine ⟨by omega, fun r hrr => ?_⟩; first | ((have hre : r = encD x := by (first | exact get_row hrr hx | fail)); subst hre) | ((have hre : r = encD y := by (first | exact get_rowi (j := k - 1) hrr (by omega) hy | fail)); subst hre)) | (refine ⟨_, rranges_h, x, trivial, leVs_of_eq rfl, .inl rfl, rfl, ?_⟩; show norm (B (decide (rideP x))) _; rw [hd]) | (refine ⟨_, rbefore_h, (y, x), trivial, leVs_of_eq rfl, .inl rfl, rfl, ?_⟩; show norm (B (decide (befD y x))) _; rw [hf]) | (refine ⟨k + 1, ⟨?_, by (try dsimp only); omega⟩, [], ⟨⟨rfl, rfl⟩, ⟨⟨rfl, rfl⟩, trivial⟩⟩, trivial, rfl, rfl, rfl⟩; (try dsimp only); exact ⟨by omega, fe_go h0 (hE.trans (if_neg fun h => h.2 (of_decide_eq_true hf)))⟩) | refine ⟨⟨by omega, by omega⟩, ?_⟩ | fail)
  · have hkn : k = l.length := by omega
    subst hkn
    repeat' ((conv => whnf); first | (refine ⟨fun h => ?_, fun h => ?_⟩ <;> try (exfalso; first | omega | exact absurd h (by decide) | exact h rfl)) | fail | fail)
    all_goals (refine ⟨[], rfl, trivial, congrArg (CV.int .i64) ?_⟩; exact (hT.trans h0).symm)
theorem rrides_h : Holds Try.prog 28 rridesS := holds_of mix Try.func28 rridesLow (fun _ => rfl) rridesV

end Go.Proofs.Ytbglmocgijlomaa
