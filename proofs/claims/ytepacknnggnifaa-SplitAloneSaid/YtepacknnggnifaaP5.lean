/- Products and quotients: plain. No program in sight. -/
import Derived.Test.YtepacknnggnifaaP4
namespace Go.Proofs.Ytepacknnggnifaa

theorem div_step {A s q r : Int} (hs : 0 < s) (h : A = s * q + r) : A / s = q + r / s ∧ A % s = r % s := by
  subst h
  rw [Int.add_comm]
  exact ⟨by rw [Int.add_mul_ediv_left _ _ (by omega)]; omega, by rw [Int.add_mul_emod_self_left]⟩
theorem half_pow (w : Int) (j : Nat) : w / 2 ^ (j + 1) = w / 2 ^ j / 2 := by
  rw [Int.pow_succ, Int.ediv_ediv_of_nonneg (Int.le_of_lt (Int.pow_pos (by omega)))]
/-- One bit more of a product's quotient. -/
theorem quo_bit {a w s : Int} (hs : 0 < s) (j : Nat) {b : Int} (hb : w / 2 ^ j % 2 = b) :
    a * (w / 2 ^ j) / s = (2 * (a * (w / 2 ^ (j + 1)) / s) + b * (a / s)) + (2 * (a * (w / 2 ^ (j + 1)) % s) + b * (a % s)) / s ∧ a * (w / 2 ^ j) % s = (2 * (a * (w / 2 ^ (j + 1)) % s) + b * (a % s)) % s := by
  refine div_step hs ?_
  rw [half_pow]
  generalize w / 2 ^ j = v at *
  have h1 : v = 2 * (v / 2) + b := by omega
  have h2 := Int.mul_ediv_add_emod (a * (v / 2)) s
  have h3 := Int.mul_ediv_add_emod a s
  generalize a * (v / 2) / s = q at *
  generalize a * (v / 2) % s = r at *
  generalize a / s = x at *
  generalize a % s = y at *
  have e : a * v = 2 * (a * (v / 2)) + b * a := by
    conv => lhs; rw [h1]
    rw [Int.mul_add, Int.mul_left_comm, Int.mul_comm a b]
  have e2 : b * a = s * (b * x) + b * y := by rw [← h3, Int.mul_add, Int.mul_left_comm]
  rw [e, e2, Int.mul_add s, Int.mul_left_comm s 2]
  omega
theorem wrap_small {n : Int} (h0 : 0 ≤ n) (h1 : n < 9223372036854775808) : IntKind.wrap .i64 n = n := by
  show (if IntKind.signed .i64 && decide (2 ^ (IntKind.bits .i64 - 1) ≤ n % 2 ^ IntKind.bits .i64) then _ else _) = n
  have e : (2 : Int) ^ IntKind.bits .i64 = 18446744073709551616 := by decide
  have e2 : (2 : Int) ^ (IntKind.bits .i64 - 1) = 9223372036854775808 := by decide
  rw [e, e2]
  have : n % 18446744073709551616 = n := by omega
  rw [this]
  simp only [Bool.and_eq_true, decide_eq_true_eq]
  rw [if_neg (by omega)]
theorem low1 (n : Int) : IntKind.wrap .i64 ((BitVec.ofInt (IntKind.bits .i64) n &&& BitVec.ofInt (IntKind.bits .i64) 1).toNat) = n % 2 := by
  rw [BitVec.toNat_and]
  have h1 : (BitVec.ofInt (IntKind.bits .i64) 1).toNat = 2 ^ 1 - 1 := by decide
  have h2 : (BitVec.ofInt (IntKind.bits .i64) n).toNat = (n % 18446744073709551616).toNat := by
    rw [BitVec.toNat_ofInt]; rfl
  rw [h1, Nat.and_two_pow_sub_one_eq_mod, h2]
  have h3 : (((n % 18446744073709551616).toNat % 2 ^ 1 : Nat) : Int) = n % 2 := by omega
  rw [h3]
  exact wrap_small (by omega) (by omega)
theorem shrj (n : Int) {j : Nat} (h : j < 64) : n.fdiv (2 ^ Nat.min ((j : Int).toNat) (IntKind.bits .i64)) = n / 2 ^ j := by
  rw [Int.fdiv_eq_ediv_of_nonneg _ (Int.le_of_lt (Int.pow_pos (by omega)))]
  have : Nat.min ((j : Int).toNat) (IntKind.bits .i64) = j := by
    rw [Int.toNat_natCast]; exact Nat.min_eq_left (by show j ≤ 64; omega)
  rw [this]
end Go.Proofs.Ytepacknnggnifaa
