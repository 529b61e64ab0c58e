/- Halves of 64 bits: plain. No program in sight. -/
import Derived.Test.YtepacknnggnifaaP5
namespace Go.Proofs.Ytepacknnggnifaa
open Go.RowKit

theorem wrap_u64 (n : Int) : IntKind.wrap .u64 n = n % 18446744073709551616 := by
  simp only [IntKind.wrap, IntKind.bits, IntKind.signed]
  simp
theorem shr32 (n : Int) : n.fdiv (2 ^ Nat.min ((32 : Int).toNat) (IntKind.bits .u64)) = n / 4294967296 := by
  rw [Int.fdiv_eq_ediv_of_nonneg _ (by decide)]
  rfl
theorem low32 (n : Int) : IntKind.wrap .u64 ((BitVec.ofInt (IntKind.bits .u64) n &&& BitVec.ofInt (IntKind.bits .u64) 4294967295).toNat) = n % 4294967296 := by
  rw [BitVec.toNat_and]
  have h1 : (BitVec.ofInt (IntKind.bits .u64) 4294967295).toNat = 2 ^ 32 - 1 := by decide
  have h2 : (BitVec.ofInt (IntKind.bits .u64) n).toNat = (n % 18446744073709551616).toNat := by
    rw [BitVec.toNat_ofInt]; rfl
  rw [h1, Nat.and_two_pow_sub_one_eq_mod, h2, wrap_u64]
  omega
end Go.Proofs.Ytepacknnggnifaa
