/- Bits. No program in sight. -/
import Derived.Test.YtpkhannkbafimaaGreatP5
namespace Go.Proofs.YtpkhannkbafimaaGreat

theorem shl_facts : ∀ k : Fin 9, IntKind.wrap .i64 (1 * 2 ^ Nat.min ((k.1 : Int).toNat) (IntKind.bits .i64)) = ((2 ^ k.1 : Nat) : Int) := by decide +kernel
theorem shl_eq {k : Nat} (h : k ≤ 8) : IntKind.wrap .i64 (1 * 2 ^ Nat.min ((k : Int).toNat) (IntKind.bits .i64)) = ((2 ^ k : Nat) : Int) := shl_facts ⟨k, by omega⟩
theorem bit_facts : ∀ S : Fin 256, ∀ k : Fin 8, IntKind.wrap .i64 ((BitVec.ofInt (IntKind.bits .i64) ((S.1 : Int).fdiv (2 ^ Nat.min ((k.1 : Int).toNat) (IntKind.bits .i64))) &&& BitVec.ofInt (IntKind.bits .i64) 1).toNat) = if S.1.testBit k.1 then 1 else 0 := by decide +kernel
theorem bit_eq {S k : Nat} (h : S < 256) (hk : k < 8) : IntKind.wrap .i64 ((BitVec.ofInt (IntKind.bits .i64) ((S : Int).fdiv (2 ^ Nat.min ((k : Int).toNat) (IntKind.bits .i64))) &&& BitVec.ofInt (IntKind.bits .i64) 1).toNat) = if S.testBit k then 1 else 0 := bit_facts ⟨S, h⟩ ⟨k, hk⟩
theorem clr_facts : ∀ S : Fin 256, ∀ k : Fin 8, IntKind.wrap .i64 ((BitVec.ofInt (IntKind.bits .i64) (S.1 : Int) &&& ~~~ BitVec.ofInt (IntKind.bits .i64) ((2 ^ k.1 : Nat) : Int)).toNat) = (((if S.1.testBit k.1 then S.1 ^^^ 2 ^ k.1 else S.1) : Nat) : Int) := by decide +kernel
theorem clr_int {S k : Nat} (h : S < 256) (hk : k < 8) : IntKind.wrap .i64 ((BitVec.ofInt (IntKind.bits .i64) (S : Int) &&& ~~~ BitVec.ofInt (IntKind.bits .i64) ((2 ^ k : Nat) : Int)).toNat) = (((if S.testBit k then S ^^^ 2 ^ k else S) : Nat) : Int) := clr_facts ⟨S, h⟩ ⟨k, hk⟩
theorem wrap_small {n : Int} (h0 : 0 ≤ n) (h : n < 9223372036854775808) : IntKind.wrap .i64 n = n := by
  have e : (2 : Int) ^ (IntKind.bits .i64) = 18446744073709551616 := by decide
  have e2 : (2 : Int) ^ (IntKind.bits .i64 - 1) = 9223372036854775808 := by decide
  unfold IntKind.wrap
  rw [e, e2]
  have : n % 18446744073709551616 = n := by omega
  rw [this]
  simp only [Bool.and_eq_true, decide_eq_true_eq]
  rw [if_neg (by omega)]
theorem shr20 (n : Int) : n.fdiv (2 ^ Nat.min ((20 : Int).toNat) (IntKind.bits .i64)) = n / 1048576 := by
  rw [Int.fdiv_eq_ediv_of_nonneg _ (by decide)]
  rfl
theorem low20 (n : Int) : IntKind.wrap .i64 ((BitVec.ofInt (IntKind.bits .i64) n &&& BitVec.ofInt (IntKind.bits .i64) 1048575).toNat) = n % 1048576 := by
  rw [BitVec.toNat_and]
  have h1 : (BitVec.ofInt (IntKind.bits .i64) 1048575).toNat = 2 ^ 20 - 1 := by decide
  have h2 : (BitVec.ofInt (IntKind.bits .i64) n).toNat = (n % 18446744073709551616).toNat := by
    rw [BitVec.toNat_ofInt]; rfl
  rw [h1, Nat.and_two_pow_sub_one_eq_mod, h2]
  have h3 : (((n % 18446744073709551616).toNat % 2 ^ 20 : Nat) : Int) = n % 1048576 := by omega
  rw [h3]
  exact wrap_small (by omega) (by omega)
/-- A number in two parts. -/
theorem parts (n : Int) : n / 1048576 * 1048576 + n % 1048576 = n := by omega
end Go.Proofs.YtpkhannkbafimaaGreat
