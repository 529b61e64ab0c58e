/- Split: math/bits.Mul64. -/
import Derived.Test.YtepacknnggnifaaFB
import Derived.Test.YtepacknnggnifaaP6
namespace Go.Proofs.Ytepacknnggnifaa
open Go.RowKit
abbrev U (n : Int) : SV := .c (.int .u64 n)
theorem mul_parts (a w : Int) : (a / 4294967296 * w + a % 4294967296 * w / 4294967296) = a * w / 4294967296 := by
  have h := Int.mul_ediv_add_emod a 4294967296
  have h2 : a * w = a % 4294967296 * w + 4294967296 * (a / 4294967296 * w) := by
    conv => lhs; rw [← h, Int.add_mul, Int.mul_assoc]
    rw [Int.add_comm]
  rw [h2, Int.add_mul_ediv_left _ _ (by decide)]
  omega
theorem two_div (n : Int) : n / 4294967296 / 4294967296 = n / 18446744073709551616 := by
  rw [Int.ediv_ediv_of_nonneg (by decide)]; rfl

/-! math/bits.Mul64 -/
def mulIr : IFn := ⟨51, [.tmp 4, .tmp 5],
  (.seq (.ops [
    ⟨(some 4), .mov, [.const (.int .u64 0)], none⟩,
    ⟨(some 5), .mov, [.const (.int .u64 0)], none⟩] false)
  (.seq (.ops [
    ⟨(some 14), .mov, [.tmp 0], none⟩,
    ⟨(some 15), .bin .and .u64 false, [.tmp 14, .const (.int .u64 4294967295)], none⟩,
    ⟨(some 6), .mov, [.tmp 15], none⟩] false)
  (.seq (.ops [
    ⟨(some 16), .mov, [.tmp 0], none⟩,
    ⟨(some 17), .bin .shr .u64 false, [.tmp 16, .const (.int .u64 32)], none⟩,
    ⟨(some 7), .mov, [.tmp 17], none⟩] false)
  (.seq (.ops [
    ⟨(some 18), .mov, [.tmp 1], none⟩,
    ⟨(some 19), .bin .and .u64 false, [.tmp 18, .const (.int .u64 4294967295)], none⟩,
    ⟨(some 8), .mov, [.tmp 19], none⟩] false)
  (.seq (.ops [
    ⟨(some 20), .mov, [.tmp 1], none⟩,
    ⟨(some 21), .bin .shr .u64 false, [.tmp 20, .const (.int .u64 32)], none⟩,
    ⟨(some 9), .mov, [.tmp 21], none⟩] false)
  (.seq (.ops [
    ⟨(some 22), .mov, [.tmp 6], none⟩,
    ⟨(some 23), .mov, [.tmp 8], none⟩,
    ⟨(some 24), .bin .mul .u64 false, [.tmp 22, .tmp 23], none⟩,
    ⟨(some 10), .mov, [.tmp 24], none⟩] false)
  (.seq (.ops [
    ⟨(some 25), .mov, [.tmp 7], none⟩,
    ⟨(some 26), .mov, [.tmp 8], none⟩,
    ⟨(some 27), .bin .mul .u64 false, [.tmp 25, .tmp 26], none⟩,
    ⟨(some 28), .mov, [.tmp 10], none⟩,
    ⟨(some 29), .bin .shr .u64 false, [.tmp 28, .const (.int .u64 32)], none⟩,
    ⟨(some 30), .bin .add .u64 false, [.tmp 27, .tmp 29], none⟩,
    ⟨(some 11), .mov, [.tmp 30], none⟩] false)
  (.seq (.ops [
    ⟨(some 31), .mov, [.tmp 11], none⟩,
    ⟨(some 32), .bin .and .u64 false, [.tmp 31, .const (.int .u64 4294967295)], none⟩,
    ⟨(some 12), .mov, [.tmp 32], none⟩] false)
  (.seq (.ops [
    ⟨(some 33), .mov, [.tmp 11], none⟩,
    ⟨(some 34), .bin .shr .u64 false, [.tmp 33, .const (.int .u64 32)], none⟩,
    ⟨(some 13), .mov, [.tmp 34], none⟩] false)
  (.seq (.ops [
    ⟨(some 35), .mov, [.tmp 12], none⟩,
    ⟨(some 36), .mov, [.tmp 6], none⟩,
    ⟨(some 37), .mov, [.tmp 9], none⟩,
    ⟨(some 38), .bin .mul .u64 false, [.tmp 36, .tmp 37], none⟩,
    ⟨(some 39), .bin .add .u64 false, [.tmp 35, .tmp 38], none⟩,
    ⟨(some 12), .mov, [.tmp 39], none⟩] false)
  (.seq (.ops [
    ⟨(some 40), .mov, [.tmp 7], none⟩,
    ⟨(some 41), .mov, [.tmp 9], none⟩,
    ⟨(some 42), .bin .mul .u64 false, [.tmp 40, .tmp 41], none⟩,
    ⟨(some 43), .mov, [.tmp 13], none⟩,
    ⟨(some 44), .bin .add .u64 false, [.tmp 42, .tmp 43], none⟩,
    ⟨(some 45), .mov, [.tmp 12], none⟩,
    ⟨(some 46), .bin .shr .u64 false, [.tmp 45, .const (.int .u64 32)], none⟩,
    ⟨(some 47), .bin .add .u64 false, [.tmp 44, .tmp 46], none⟩,
    ⟨(some 4), .mov, [.tmp 47], none⟩] false)
  (.seq (.ops [
    ⟨(some 48), .mov, [.tmp 0], none⟩,
    ⟨(some 49), .mov, [.tmp 1], none⟩,
    ⟨(some 50), .bin .mul .u64 true, [.tmp 48, .tmp 49], none⟩,
    ⟨(some 5), .mov, [.tmp 50], none⟩] false)
  .ret))))))))))))⟩
theorem mulLow : lowF Try.prog { wraps := [50] } Try.f38 = some mulIr := by kernel_rfl
def mulS : Spec := spec (Int × Int) (fun p => [U p.1, U p.2]) (fun p => (0 ≤ p.1 ∧ p.1 ≤ 1099511627776) ∧ 0 ≤ p.2 ∧ p.2 ≤ 1000000000) (fun p => .tup [U (p.1 * p.2 / 18446744073709551616), U (p.1 * p.2 % 18446744073709551616)])
theorem mulV : fnV Try.prog mulIr mulS := by
  intro ⟨(a : Int), (w : Int)⟩ hx
  obtain ⟨⟨a0, a1⟩, w0, w1⟩ : (0 ≤ a ∧ a ≤ 1099511627776) ∧ 0 ≤ w ∧ w ≤ 1000000000 := hx
  have la := low32 a
  have lw := low32 w
  have lw' : w % 4294967296 = w := by omega
  have hw' : w / 4294967296 = 0 := by omega
  rw [lw'] at lw
  have m0 : 0 ≤ a % 4294967296 * w := Int.mul_nonneg (by omega) w0
  have m1 : a % 4294967296 * w ≤ 4294967296 * w := Int.mul_le_mul_of_nonneg_right (by omega) w0
  have n0 : 0 ≤ a / 4294967296 * w := Int.mul_nonneg (by omega) w0
  have n1 : a / 4294967296 * w ≤ 4294967296 * w := Int.mul_le_mul_of_nonneg_right (by omega) w0
  have hp := mul_parts a w
  have hd := two_div (a * w)
  have lt := low32 (a * w / 4294967296)
  have hu := wrap_u64 (a * w)
  have p0 : 0 ≤ a * w := Int.mul_nonneg a0 w0
  show vc _ _ _ _ ⟨argEnv 0 [U a, U w], [], 0⟩
  repeat' ((conv => whnf); first | (rw [la]) | (rw [lw]) | (rw [lt]) | (rw [hu]) | (refine ⟨by decide, ?_⟩; rw [shr32, hw']) | (refine ⟨by decide, ?_⟩; rw [shr32, hd]) | (refine ⟨by decide, ?_⟩; rw [shr32]) | (refine ⟨inR_u64 (by omega) (by omega), ?_⟩; rw [hp]) | (refine ⟨inR_u64 (by omega) (by omega), ?_⟩) | fail)
  refine ⟨[], rfl, trivial, ⟨congrArg (CV.int .u64) ?_, rfl, trivial⟩⟩
  show _ = a * w / 18446744073709551616
  omega
theorem mul_h : Holds Try.prog 38 mulS := holds_of mix Try.func38 mulLow (fun _ => rfl) mulV

end Go.Proofs.Ytepacknnggnifaa
