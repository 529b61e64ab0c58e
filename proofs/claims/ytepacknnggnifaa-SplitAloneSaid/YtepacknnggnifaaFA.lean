/- Split: the reference's Quotient, and equality. -/
import Derived.Test.YtepacknnggnifaaF9
import Derived.Test.YtepacknnggnifaaP5
namespace Go.Proofs.Ytepacknnggnifaa
open Go.RowKit
theorem share_ext {x y : Share} (h : x.o = y.o ∧ x.a = y.a ∧ True) : x = y := by
  obtain ⟨a0, a1, _⟩ := h
  cases x; cases y; simp_all
theorem share_nn {x y : Share} (h : ¬ ¬ (x.o = y.o ∧ x.a = y.a ∧ True)) : x = y := share_ext (Decidable.not_not.1 h)
theorem share_ne {x y : Share} (h : ¬ (x.o = y.o ∧ x.a = y.a ∧ True)) : x ≠ y := fun e => h (by subst e; exact ⟨rfl, rfl, trivial⟩)

/-! skiarea/skiarearef34.Same -/
def sameIr : IFn := ⟨26, [.tmp 4],
  (.seq (.ops [
    ⟨(some 4), .mov, [.const (.bool false)], none⟩] false)
  (.seq (.seq (.ops [
    ⟨(some 6), .mov, [.tmp 0], none⟩,
    ⟨(some 7), .len, [.tmp 6], none⟩,
    ⟨(some 8), .mov, [.tmp 1], none⟩,
    ⟨(some 9), .len, [.tmp 8], none⟩,
    ⟨(some 10), .cmp .neq, [.tmp 7, .tmp 9], none⟩] false)
  (.cond (.tmp 10)
    (.seq (.ops [
      ⟨(some 4), .mov, [.const (.bool false)], none⟩] false)
    .ret)
    .skip))
  (.seq (.seq (.ops [
    ⟨(some 5), .mov, [.const (.int .i64 0)], none⟩] false)
  (.block 0
    (.loop
      (.seq (.seq (.ops [
        ⟨(some 11), .mov, [.tmp 5], none⟩,
        ⟨(some 12), .mov, [.tmp 0], none⟩,
        ⟨(some 13), .len, [.tmp 12], none⟩,
        ⟨(some 14), .cmp .lss, [.tmp 11, .tmp 13], none⟩] false)
      (.cond (.tmp 14)
        .skip
        (.exit 0)))
      (.seq (.block 1
        (.seq (.ops [
          ⟨(some 17), .mov, [.tmp 0], none⟩,
          ⟨(some 18), .mov, [.tmp 5], none⟩,
          ⟨(some 19), .idx 1, [.tmp 17, .tmp 18], none⟩,
          ⟨(some 20), .load 1 false, [.tmp 19], none⟩,
          ⟨(some 21), .mov, [.tmp 1], none⟩,
          ⟨(some 22), .mov, [.tmp 5], none⟩,
          ⟨(some 23), .idx 1, [.tmp 21, .tmp 22], none⟩,
          ⟨(some 24), .load 1 false, [.tmp 23], none⟩,
          ⟨(some 25), .cmp .neq, [.tmp 20, .tmp 24], none⟩] true)
        (.cond (.tmp 25)
          (.seq (.ops [
            ⟨(some 4), .mov, [.const (.bool false)], none⟩] false)
          .ret)
          .skip)))
      (.ops [
        ⟨(some 15), .mov, [.tmp 5], none⟩,
        ⟨(some 16), .bin .add .i64 false, [.tmp 15, .const (.int .i64 1)], none⟩,
        ⟨(some 5), .mov, [.tmp 16], none⟩] false))))))
  (.seq (.ops [
    ⟨(some 4), .mov, [.const (.bool true)], none⟩] false)
  .ret))))⟩
theorem sameLow : lowF Try.prog {} Try.f13 = some sameIr := by kernel_rfl
def sameS : Spec := spec (List Int × List Int) (fun p => [L 1 (p.1.map e1), L 1 (p.2.map e1)]) (fun p => p.1.length ≤ 9223372036854775807) (fun p => B (decide (p.1 = p.2)))
theorem sameV : fnV Try.prog sameIr sameS := by
  intro ⟨(xs : List Int), (ys : List Int)⟩ hx
  replace hx : xs.length ≤ 9223372036854775807 := hx
  have hl : (xs.map e1).length = xs.length := List.length_map ..
  have hl2 : (ys.map e1).length = ys.length := List.length_map ..
  conv => whnf
  refine ⟨fun h => ?_, fun h => ?_⟩
  · conv => whnf
    refine ⟨[], rfl, trivial, congrArg CV.bool ?_⟩
    exact (decide_eq_false fun (e : xs = ys) => h (by subst e; rfl)).symm
  have he : xs.length = ys.length := by have h : ((xs.map e1).length : Int) = (ys.map e1).length := Decidable.not_not.1 h; omega
  conv => whnf
  refine ⟨Nat, fun xq => ⟨[(0, L 1 (xs.map e1)), (1, L 1 (ys.map e1)), (5, I xq)], [], 0⟩, fun xq => xq ≤ xs.length ∧ xs.take xq = ys.take xq, fun xq => xs.length - xq, ⟨0, ?_, [], ⟨⟨rfl, rfl⟩, ⟨⟨rfl, rfl⟩, ⟨⟨rfl, rfl⟩, trivial⟩⟩⟩, trivial, rfl, rfl, rfl⟩, ?_⟩
  · (try dsimp only); exact ⟨Nat.zero_le _, by simp⟩
  rintro k hk
  obtain ⟨hk, hr⟩ : k ≤ xs.length ∧ xs.take k = ys.take k := hk
  (try dsimp only)
  conv => whnf
  refine ⟨fun h => ?_, fun h => ?_⟩
  · replace h : (k : Int) < ((xs.map e1).length : Int) := h
    conv => whnf
    refine ⟨by omega, fun r hr' => ?_⟩
    obtain ⟨x, hx', rfl⟩ := map_get hr'
    rw [Int.toNat_natCast] at hx'
    conv => whnf
    refine ⟨by omega, fun r hr' => ?_⟩
    obtain ⟨y, hy', rfl⟩ := map_get hr'
    rw [Int.toNat_natCast] at hy'
    conv => whnf
    refine ⟨fun hc => ?_, fun hc => ?_⟩
    · conv => whnf
      refine ⟨[], rfl, trivial, congrArg CV.bool ?_⟩
      exact (decide_eq_false (ne_at hx' hy' (fun e => hc (by subst e; rfl)))).symm
    · conv => whnf
      refine ⟨⟨by omega, by omega⟩, ?_⟩
      conv => whnf
      (refine ⟨k + 1, ⟨?_, by (try dsimp only); omega⟩, [], ⟨⟨rfl, rfl⟩, ⟨⟨rfl, rfl⟩, ⟨⟨rfl, rfl⟩, trivial⟩⟩⟩, trivial, rfl, rfl, rfl⟩; (try dsimp only); exact ⟨by omega, take_step hr hx' hy' (Decidable.not_not.1 hc)⟩)
  · conv => whnf
    refine ⟨[], rfl, trivial, congrArg CV.bool ?_⟩
    exact (decide_eq_true (take_all hr (by omega) (by omega))).symm
theorem same_h : Holds Try.prog 13 sameS := holds_of mix Try.func13 sameLow (fun _ => rfl) sameV

/-! skiarea/skiarearef34.SameShares -/
def sameSIr : IFn := ⟨26, [.tmp 4],
  (.seq (.ops [
    ⟨(some 4), .mov, [.const (.bool false)], none⟩] false)
  (.seq (.seq (.ops [
    ⟨(some 6), .mov, [.tmp 0], none⟩,
    ⟨(some 7), .len, [.tmp 6], none⟩,
    ⟨(some 8), .mov, [.tmp 1], none⟩,
    ⟨(some 9), .len, [.tmp 8], none⟩,
    ⟨(some 10), .cmp .neq, [.tmp 7, .tmp 9], none⟩] false)
  (.cond (.tmp 10)
    (.seq (.ops [
      ⟨(some 4), .mov, [.const (.bool false)], none⟩] false)
    .ret)
    .skip))
  (.seq (.seq (.ops [
    ⟨(some 5), .mov, [.const (.int .i64 0)], none⟩] false)
  (.block 0
    (.loop
      (.seq (.seq (.ops [
        ⟨(some 11), .mov, [.tmp 5], none⟩,
        ⟨(some 12), .mov, [.tmp 0], none⟩,
        ⟨(some 13), .len, [.tmp 12], none⟩,
        ⟨(some 14), .cmp .lss, [.tmp 11, .tmp 13], none⟩] false)
      (.cond (.tmp 14)
        .skip
        (.exit 0)))
      (.seq (.block 1
        (.seq (.ops [
          ⟨(some 17), .mov, [.tmp 0], none⟩,
          ⟨(some 18), .mov, [.tmp 5], none⟩,
          ⟨(some 19), .idx 2, [.tmp 17, .tmp 18], none⟩,
          ⟨(some 20), .load 2 true, [.tmp 19], none⟩,
          ⟨(some 21), .mov, [.tmp 1], none⟩,
          ⟨(some 22), .mov, [.tmp 5], none⟩,
          ⟨(some 23), .idx 2, [.tmp 21, .tmp 22], none⟩,
          ⟨(some 24), .load 2 true, [.tmp 23], none⟩,
          ⟨(some 25), .eqa [false, false] true, [.tmp 20, .tmp 24], none⟩] true)
        (.cond (.tmp 25)
          (.seq (.ops [
            ⟨(some 4), .mov, [.const (.bool false)], none⟩] false)
          .ret)
          .skip)))
      (.ops [
        ⟨(some 15), .mov, [.tmp 5], none⟩,
        ⟨(some 16), .bin .add .i64 false, [.tmp 15, .const (.int .i64 1)], none⟩,
        ⟨(some 5), .mov, [.tmp 16], none⟩] false))))))
  (.seq (.ops [
    ⟨(some 4), .mov, [.const (.bool true)], none⟩] false)
  .ret))))⟩
theorem sameSLow : lowF Try.prog {} Try.f22 = some sameSIr := by kernel_rfl
def sameSS : Spec := spec (List Share × List Share) (fun p => [L 2 (p.1.map encS), L 2 (p.2.map encS)]) (fun p => p.1.length ≤ 9223372036854775807) (fun p => B (decide (p.1 = p.2)))
theorem sameSV : fnV Try.prog sameSIr sameSS := by
  intro ⟨(xs : List Share), (ys : List Share)⟩ hx
  replace hx : xs.length ≤ 9223372036854775807 := hx
  have hl : (xs.map encS).length = xs.length := List.length_map ..
  have hl2 : (ys.map encS).length = ys.length := List.length_map ..
  conv => whnf
  refine ⟨fun h => ?_, fun h => ?_⟩
  · conv => whnf
    refine ⟨[], rfl, trivial, congrArg CV.bool ?_⟩
    exact (decide_eq_false fun (e : xs = ys) => h (by subst e; rfl)).symm
  have he : xs.length = ys.length := by have h : ((xs.map encS).length : Int) = (ys.map encS).length := Decidable.not_not.1 h; omega
  conv => whnf
  refine ⟨Nat, fun xq => ⟨[(0, L 2 (xs.map encS)), (1, L 2 (ys.map encS)), (5, I xq)], [], 0⟩, fun xq => xq ≤ xs.length ∧ xs.take xq = ys.take xq, fun xq => xs.length - xq, ⟨0, ?_, [], ⟨⟨rfl, rfl⟩, ⟨⟨rfl, rfl⟩, ⟨⟨rfl, rfl⟩, trivial⟩⟩⟩, trivial, rfl, rfl, rfl⟩, ?_⟩
  · (try dsimp only); exact ⟨Nat.zero_le _, by simp⟩
  rintro k hk
  obtain ⟨hk, hr⟩ : k ≤ xs.length ∧ xs.take k = ys.take k := hk
  (try dsimp only)
  conv => whnf
  refine ⟨fun h => ?_, fun h => ?_⟩
  · replace h : (k : Int) < ((xs.map encS).length : Int) := h
    conv => whnf
    refine ⟨by omega, fun r hr' => ?_⟩
    obtain ⟨x, hx', rfl⟩ := map_get hr'
    rw [Int.toNat_natCast] at hx'
    conv => whnf
    refine ⟨by omega, fun r hr' => ?_⟩
    obtain ⟨y, hy', rfl⟩ := map_get hr'
    rw [Int.toNat_natCast] at hy'
    conv => whnf
    refine ⟨fun hc => ?_, fun hc => ?_⟩
    · conv => whnf
      refine ⟨[], rfl, trivial, congrArg CV.bool ?_⟩
      exact (decide_eq_false (ne_at hx' hy' (fun e => hc (by subst e; exact ⟨rfl, rfl, trivial⟩)))).symm
    · conv => whnf
      refine ⟨⟨by omega, by omega⟩, ?_⟩
      conv => whnf
      (refine ⟨k + 1, ⟨?_, by (try dsimp only); omega⟩, [], ⟨⟨rfl, rfl⟩, ⟨⟨rfl, rfl⟩, ⟨⟨rfl, rfl⟩, trivial⟩⟩⟩, trivial, rfl, rfl, rfl⟩; (try dsimp only); exact ⟨by omega, take_step hr hx' hy' (share_nn hc)⟩)
  · conv => whnf
    refine ⟨[], rfl, trivial, congrArg CV.bool ?_⟩
    exact (decide_eq_true (take_all hr (by omega) (by omega))).symm
theorem sameS_h : Holds Try.prog 22 sameSS := holds_of mix Try.func22 sameSLow (fun _ => rfl) sameSV

end Go.Proofs.Ytepacknnggnifaa
