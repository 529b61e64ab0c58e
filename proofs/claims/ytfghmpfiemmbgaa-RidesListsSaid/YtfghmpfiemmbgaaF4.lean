/- Rides: Same, SameInts, Clone. -/
import Derived.Test.YtfghmpfiemmbgaaF3
namespace Go.Proofs.Ytfghmpfiemmbgaa
open Go.RowKit

theorem take_step {α : Type} {xs ys : List α} {k : Nat} {x y : α} (h : xs.take k = ys.take k) (hx : xs[k]? = some x) (hy : ys[k]? = some y) (e : x = y) : xs.take (k + 1) = ys.take (k + 1) := by
  rw [List.take_add_one, List.take_add_one, h, hx, hy, e]
theorem take_all {α : Type} {xs ys : List α} {k : Nat} (h : xs.take k = ys.take k) (h1 : xs.length ≤ k) (h2 : ys.length ≤ k) : xs = ys := by
  rw [List.take_of_length_le h1, List.take_of_length_le h2] at h; exact h
theorem ne_at {α : Type} {xs ys : List α} {k : Nat} {x y : α} (hx : xs[k]? = some x) (hy : ys[k]? = some y) (e : x ≠ y) : xs ≠ ys := fun h => by subst h; rw [hx] at hy; cases hy; exact e rfl

/-! skiarea/skiarearef31.Same -/
def sameIr : IFn := ⟨26, [.tmp 4],
  (.seq (.ops [
    ⟨(some 4), .mov, [.const (.bool false)], none⟩] false)
  (.seq (.seq (.ops [
    ⟨(some 6), .mov, [.tmp 0], none⟩,
    ⟨(some 7), .len, [.tmp 6], none⟩,
    ⟨(some 8), .mov, [.tmp 1], none⟩,
    ⟨(some 9), .len, [.tmp 8], none⟩,
    ⟨(some 10), .cmp .neq, [.tmp 7, .tmp 9], none⟩] false)
  (.cond (.tmp 10)
    (.seq (.ops [
      ⟨(some 4), .mov, [.const (.bool false)], none⟩] false)
    .ret)
    .skip))
  (.seq (.seq (.ops [
    ⟨(some 5), .mov, [.const (.int .i64 0)], none⟩] false)
  (.block 0
    (.loop
      (.seq (.seq (.ops [
        ⟨(some 11), .mov, [.tmp 5], none⟩,
        ⟨(some 12), .mov, [.tmp 0], none⟩,
        ⟨(some 13), .len, [.tmp 12], none⟩,
        ⟨(some 14), .cmp .lss, [.tmp 11, .tmp 13], none⟩] false)
      (.cond (.tmp 14)
        .skip
        (.exit 0)))
      (.seq (.block 1
        (.seq (.ops [
          ⟨(some 17), .mov, [.tmp 0], none⟩,
          ⟨(some 18), .mov, [.tmp 5], none⟩,
          ⟨(some 19), .idx 7, [.tmp 17, .tmp 18], none⟩,
          ⟨(some 20), .load 7 true, [.tmp 19], none⟩,
          ⟨(some 21), .mov, [.tmp 1], none⟩,
          ⟨(some 22), .mov, [.tmp 5], none⟩,
          ⟨(some 23), .idx 7, [.tmp 21, .tmp 22], none⟩,
          ⟨(some 24), .load 7 true, [.tmp 23], none⟩,
          ⟨(some 25), .eqa [false, false, false, false, false, false, false] true, [.tmp 20, .tmp 24], none⟩] true)
        (.cond (.tmp 25)
          (.seq (.ops [
            ⟨(some 4), .mov, [.const (.bool false)], none⟩] false)
          .ret)
          .skip)))
      (.ops [
        ⟨(some 15), .mov, [.tmp 5], none⟩,
        ⟨(some 16), .bin .add .i64 false, [.tmp 15, .const (.int .i64 1)], none⟩,
        ⟨(some 5), .mov, [.tmp 16], none⟩] false))))))
  (.seq (.ops [
    ⟨(some 4), .mov, [.const (.bool true)], none⟩] false)
  .ret))))⟩
theorem sameLow : lowF Try.prog {} Try.f17 = some sameIr := by kernel_rfl
def sameS : Spec := spec (List Ride × List Ride) (fun p => [L 7 (p.1.map encR), L 7 (p.2.map encR)]) (fun p => p.1.length ≤ 9223372036854775807) (fun p => B (decide (p.1 = p.2)))
theorem sameV : fnV Try.prog sameIr sameS := by
  intro ⟨(xs : List Ride), (ys : List Ride)⟩ hx
  replace hx : xs.length ≤ 9223372036854775807 := hx
  have hl : (xs.map encR).length = xs.length := List.length_map ..
  have hl2 : (ys.map encR).length = ys.length := List.length_map ..
  conv => whnf
  refine ⟨fun h => ?_, fun h => ?_⟩
  · conv => whnf
    refine ⟨[], rfl, trivial, congrArg CV.bool ?_⟩
    exact (decide_eq_false fun (e : xs = ys) => h (by subst e; rfl)).symm
  have he : xs.length = ys.length := by have h : ((xs.map encR).length : Int) = (ys.map encR).length := Decidable.not_not.1 h; omega
  conv => whnf
  refine ⟨Nat, fun k => ⟨[(0, L 7 (xs.map encR)), (1, L 7 (ys.map encR)), (5, I k)], [], 0⟩, fun k => k ≤ xs.length ∧ xs.take k = ys.take k, fun k => xs.length - k, ⟨0, ⟨by omega, by simp⟩, [], ⟨⟨rfl, rfl⟩, ⟨⟨rfl, rfl⟩, ⟨⟨rfl, rfl⟩, trivial⟩⟩⟩, trivial, rfl, rfl⟩, fun k hk => ?_⟩
  obtain ⟨hk, hr⟩ := hk
  conv => whnf
  refine ⟨fun h => ?_, fun h => ?_⟩
  · replace h : (k : Int) < ((xs.map encR).length : Int) := h
    conv => whnf
    refine ⟨by omega, fun r hr' => ?_⟩
    obtain ⟨x, hx', rfl⟩ := map_get hr'
    rw [Int.toNat_natCast] at hx'
    conv => whnf
    refine ⟨by omega, fun r hr' => ?_⟩
    obtain ⟨y, hy', rfl⟩ := map_get hr'
    rw [Int.toNat_natCast] at hy'
    conv => whnf
    refine ⟨fun hc => ?_, fun hc => ?_⟩
    · conv => whnf
      refine ⟨[], rfl, trivial, congrArg CV.bool ?_⟩
      exact (decide_eq_false (ne_at hx' hy' (fun e => hc (by subst e; exact ⟨rfl, rfl, rfl, rfl, rfl, rfl, rfl, trivial⟩)))).symm
    · conv => whnf
      refine ⟨⟨by omega, by omega⟩, ?_⟩
      conv => whnf
      refine ⟨k + 1, ⟨⟨by omega, take_step hr hx' hy' (by obtain ⟨a1, a2, a3, a4, a5, a6, a7, _⟩ := Decidable.not_not.1 hc; cases x; cases y; simp_all)⟩, by dsimp only; omega⟩, [], ⟨⟨rfl, rfl⟩, ⟨⟨rfl, rfl⟩, ⟨⟨rfl, rfl⟩, trivial⟩⟩⟩, trivial, rfl, rfl⟩
  · conv => whnf
    refine ⟨[], rfl, trivial, congrArg CV.bool ?_⟩
    exact (decide_eq_true (take_all hr (by omega) (by omega))).symm
theorem same_h : Holds Try.prog 17 sameS := holds_of mix Try.func17 sameLow (fun _ => rfl) sameV

/-! skiarea/skiarearef31.SameInts -/
def sameIntsIr : IFn := ⟨26, [.tmp 4],
  (.seq (.ops [
    ⟨(some 4), .mov, [.const (.bool false)], none⟩] false)
  (.seq (.seq (.ops [
    ⟨(some 6), .mov, [.tmp 0], none⟩,
    ⟨(some 7), .len, [.tmp 6], none⟩,
    ⟨(some 8), .mov, [.tmp 1], none⟩,
    ⟨(some 9), .len, [.tmp 8], none⟩,
    ⟨(some 10), .cmp .neq, [.tmp 7, .tmp 9], none⟩] false)
  (.cond (.tmp 10)
    (.seq (.ops [
      ⟨(some 4), .mov, [.const (.bool false)], none⟩] false)
    .ret)
    .skip))
  (.seq (.seq (.ops [
    ⟨(some 5), .mov, [.const (.int .i64 0)], none⟩] false)
  (.block 0
    (.loop
      (.seq (.seq (.ops [
        ⟨(some 11), .mov, [.tmp 5], none⟩,
        ⟨(some 12), .mov, [.tmp 0], none⟩,
        ⟨(some 13), .len, [.tmp 12], none⟩,
        ⟨(some 14), .cmp .lss, [.tmp 11, .tmp 13], none⟩] false)
      (.cond (.tmp 14)
        .skip
        (.exit 0)))
      (.seq (.block 1
        (.seq (.ops [
          ⟨(some 17), .mov, [.tmp 0], none⟩,
          ⟨(some 18), .mov, [.tmp 5], none⟩,
          ⟨(some 19), .idx 1, [.tmp 17, .tmp 18], none⟩,
          ⟨(some 20), .load 1 false, [.tmp 19], none⟩,
          ⟨(some 21), .mov, [.tmp 1], none⟩,
          ⟨(some 22), .mov, [.tmp 5], none⟩,
          ⟨(some 23), .idx 1, [.tmp 21, .tmp 22], none⟩,
          ⟨(some 24), .load 1 false, [.tmp 23], none⟩,
          ⟨(some 25), .cmp .neq, [.tmp 20, .tmp 24], none⟩] true)
        (.cond (.tmp 25)
          (.seq (.ops [
            ⟨(some 4), .mov, [.const (.bool false)], none⟩] false)
          .ret)
          .skip)))
      (.ops [
        ⟨(some 15), .mov, [.tmp 5], none⟩,
        ⟨(some 16), .bin .add .i64 false, [.tmp 15, .const (.int .i64 1)], none⟩,
        ⟨(some 5), .mov, [.tmp 16], none⟩] false))))))
  (.seq (.ops [
    ⟨(some 4), .mov, [.const (.bool true)], none⟩] false)
  .ret))))⟩
theorem sameIntsLow : lowF Try.prog {} Try.f25 = some sameIntsIr := by kernel_rfl
def sameIntsS : Spec := spec (List Int × List Int) (fun p => [L 1 (p.1.map cI), L 1 (p.2.map cI)]) (fun p => p.1.length ≤ 9223372036854775807) (fun p => B (decide (p.1 = p.2)))
theorem sameIntsV : fnV Try.prog sameIntsIr sameIntsS := by
  intro ⟨(xs : List Int), (ys : List Int)⟩ hx
  replace hx : xs.length ≤ 9223372036854775807 := hx
  have hl : (xs.map cI).length = xs.length := List.length_map ..
  have hl2 : (ys.map cI).length = ys.length := List.length_map ..
  conv => whnf
  refine ⟨fun h => ?_, fun h => ?_⟩
  · conv => whnf
    refine ⟨[], rfl, trivial, congrArg CV.bool ?_⟩
    exact (decide_eq_false fun (e : xs = ys) => h (by subst e; rfl)).symm
  have he : xs.length = ys.length := by have h : ((xs.map cI).length : Int) = (ys.map cI).length := Decidable.not_not.1 h; omega
  conv => whnf
  refine ⟨Nat, fun k => ⟨[(0, L 1 (xs.map cI)), (1, L 1 (ys.map cI)), (5, I k)], [], 0⟩, fun k => k ≤ xs.length ∧ xs.take k = ys.take k, fun k => xs.length - k, ⟨0, ⟨by omega, by simp⟩, [], ⟨⟨rfl, rfl⟩, ⟨⟨rfl, rfl⟩, ⟨⟨rfl, rfl⟩, trivial⟩⟩⟩, trivial, rfl, rfl⟩, fun k hk => ?_⟩
  obtain ⟨hk, hr⟩ := hk
  conv => whnf
  refine ⟨fun h => ?_, fun h => ?_⟩
  · replace h : (k : Int) < ((xs.map cI).length : Int) := h
    conv => whnf
    refine ⟨by omega, fun r hr' => ?_⟩
    obtain ⟨x, hx', rfl⟩ := map_get hr'
    rw [Int.toNat_natCast] at hx'
    conv => whnf
    refine ⟨by omega, fun r hr' => ?_⟩
    obtain ⟨y, hy', rfl⟩ := map_get hr'
    rw [Int.toNat_natCast] at hy'
    conv => whnf
    refine ⟨fun hc => ?_, fun hc => ?_⟩
    · conv => whnf
      refine ⟨[], rfl, trivial, congrArg CV.bool ?_⟩
      exact (decide_eq_false (ne_at hx' hy' (fun e => hc (by subst e; rfl)))).symm
    · conv => whnf
      refine ⟨⟨by omega, by omega⟩, ?_⟩
      conv => whnf
      refine ⟨k + 1, ⟨⟨by omega, take_step hr hx' hy' (Decidable.not_not.1 hc)⟩, by dsimp only; omega⟩, [], ⟨⟨rfl, rfl⟩, ⟨⟨rfl, rfl⟩, ⟨⟨rfl, rfl⟩, trivial⟩⟩⟩, trivial, rfl, rfl⟩
  · conv => whnf
    refine ⟨[], rfl, trivial, congrArg CV.bool ?_⟩
    exact (decide_eq_true (take_all hr (by omega) (by omega))).symm
theorem sameInts_h : Holds Try.prog 25 sameIntsS := holds_of mix Try.func25 sameIntsLow (fun _ => rfl) sameIntsV

/-! slices.Clone[[]skiarea/api.Ride,skiarea/api.Ride] -/
def cloneIr : IFn := ⟨8, [.tmp 2],
  (.seq (.ops [
    ⟨(some 2), .nilOwn 28 7, [], none⟩] false)
  (.seq (.seq (.ops [
    ⟨(some 3), .mov, [.tmp 0], none⟩,
    ⟨(some 4), .isnil false, [.tmp 3], none⟩] false)
  (.cond (.tmp 4)
    (.seq (.ops [
      ⟨(some 2), .nilOwn 28 7, [], none⟩] false)
    .ret)
    .skip))
  (.seq (.ops [
    ⟨(some 5), .buildOwn 28 7, [], none⟩,
    ⟨(some 6), .mov, [.tmp 0], none⟩,
    ⟨(some 7), .append 28 7 56, [.tmp 5, .tmp 6], none⟩,
    ⟨(some 2), .mov, [.tmp 7], none⟩] false)
  .ret)))⟩
theorem cloneLow : lowF Try.prog { owns := [(2, 28), (5, 28)] } Try.f32 = some cloneIr := by kernel_rfl
def cloneS : Spec := ⟨List Ride, fun l => [L 7 (l.map encR)], fun l => l.length ≤ 1000000, fun _ => .osl 0, fun l => [.row 28 7 (l.map encR)]⟩
theorem cloneV : fnV Try.prog cloneIr cloneS := by
  intro (xs : List Ride) (hx : xs.length ≤ 1000000)
  have hl : (xs.map encR).length = xs.length := List.length_map ..
  conv => whnf
  refine ⟨fun h => ?_, ?_⟩
  · conv => whnf
    refine ⟨[1], rfl, ⟨⟨?_, _, _, _, rfl⟩, trivial⟩, ?_⟩
    · show some (Ob.row 28 7 []) = some (Ob.row 28 7 (xs.map encR))
      rw [h]
    · rfl
  · conv => whnf
    refine ⟨⟨by simp; omega, by simp; omega⟩, ?_⟩
    conv => whnf
    exact ⟨[2], rfl, ⟨⟨rfl, _, _, _, rfl⟩, trivial⟩, rfl⟩
theorem clone_h : Holds Try.prog 32 cloneS := holds_of mix Try.func32 cloneLow (fun _ => rfl) cloneV

end Go.Proofs.Ytfghmpfiemmbgaa
