/- Long division in halves of 64 bits: plain. No program in sight. -/
import Derived.Lib.BitFns
import Derived.Test.YtepacknnggnifaaP8
namespace Go.Proofs.Ytepacknnggnifaa
open Go.RowKit

theorem dg_eq (q y1 y0 : Int) : q * (y1 * 4294967296 + y0) = q * y1 * 4294967296 + q * y0 := by rw [Int.mul_add, Int.mul_assoc]
/-- The divisor in halves, the numerator and its digit. -/
structure Dg (u d y1 y0 Q : Int) : Prop where
  y1a : 2147483648 ≤ y1
  y1b : y1 < 4294967296
  y0a : 0 ≤ y0
  y0b : y0 < 4294967296
  ua : 0 ≤ u
  ub : u < y1 * 4294967296 + y0
  da : 0 ≤ d
  db : d < 4294967296
  hQ : Q = (u * 4294967296 + d) / (y1 * 4294967296 + y0)
theorem Dg.Qa {u d y1 y0 Q : Int} (h : Dg u d y1 y0 Q) : 0 ≤ Q ∧ Q < 4294967296 := by
  obtain ⟨a1, a2, a3, a4, a5, a6, a7, a8, rfl⟩ := h
  refine ⟨Int.ediv_nonneg (by omega) (by omega), Int.ediv_lt_of_lt_mul (by omega) ?_⟩
  omega
/-- The number is still too great. -/
theorem Dg.down {u d y1 y0 Q q r : Int} (h : Dg u d y1 y0 Q) (hr : q * y1 + r = u) (hq : 4294967296 ≤ q ∨ 4294967296 * r + d < q * y0) : Q ≤ q - 1 := by
  have hQ := h.Qa
  rcases hq with hq | hq
  · omega
  · have h1 := dg_eq q y1 y0
    obtain ⟨a1, a2, a3, a4, a5, a6, a7, a8, rfl⟩ := h
    have h2 : u * 4294967296 + d < q * (y1 * 4294967296 + y0) := by rw [h1]; omega
    have := Int.ediv_lt_of_lt_mul (by omega) h2
    omega
/-- The number is small enough. -/
theorem Dg.up {u d y1 y0 Q q r : Int} (h : Dg u d y1 y0 Q) (hr : q * y1 + r = u) (hq : q * y0 ≤ 4294967296 * r + d) : q ≤ Q := by
  have h1 := dg_eq q y1 y0
  obtain ⟨a1, a2, a3, a4, a5, a6, a7, a8, rfl⟩ := h
  exact Int.le_ediv_of_mul_le (by omega) (by rw [h1]; omega)
theorem Dg.big {u d y1 y0 Q q r : Int} (h : Dg u d y1 y0 Q) (hr : q * y1 + r = u) (hb : 4294967296 ≤ r) (hq : q ≤ 4294967296) : q ≤ Q := by
  refine h.up hr ?_
  have h1 : q * y0 ≤ 4294967296 * y0 := Int.mul_le_mul_of_nonneg_right hq h.y0a
  have := h.y0b
  have := h.da
  omega
/-- Where the search begins. -/
theorem Dg.start {u d y1 y0 Q : Int} (h : Dg u d y1 y0 Q) : (Q ≤ u / y1 ∧ u / y1 ≤ 4294967297) ∧ (u / y1 * y1 + (u - u / y1 * y1) = u ∧ 0 ≤ u - u / y1 * y1 ∧ u - u / y1 * y1 < 4294967296) ∧ 0 ≤ u / y1 * y1 := by
  have hQ := h.hQ
  obtain ⟨a1, a2, a3, a4, a5, a6, a7, a8, -⟩ := h
  have hm := Int.mul_ediv_add_emod u y1
  rw [Int.mul_comm] at hm
  have h1 := Int.emod_nonneg u (show y1 ≠ 0 by omega)
  have h2 := Int.emod_lt_of_pos u (show 0 < y1 by omega)
  have h3 := Int.ediv_nonneg a5 (show 0 ≤ y1 by omega)
  refine ⟨⟨?_, ?_⟩, ⟨by omega, by omega, by omega⟩, Int.mul_nonneg h3 (by omega)⟩
  · have h4 : u * 4294967296 + d < (u / y1 + 1) * (y1 * 4294967296 + y0) := by
      rw [dg_eq]
      have h5 : (u / y1 + 1) * y1 = u / y1 * y1 + y1 := by rw [Int.add_mul, Int.one_mul]
      have h6 : 0 ≤ (u / y1 + 1) * y0 := Int.mul_nonneg (by omega) a3
      omega
    have := Int.ediv_lt_of_lt_mul (by omega) h4
    omega
  · have : u / y1 < 4294967298 := Int.ediv_lt_of_lt_mul (by omega) (by omega)
    omega
theorem Dg.less {y1 q : Int} : (q - 1) * y1 = q * y1 - y1 := by rw [Int.sub_mul, Int.one_mul]
/-- What is left of the numerator. -/
theorem Dg.rest {u d y1 y0 Q : Int} (h : Dg u d y1 y0 Q) : 0 ≤ u * 4294967296 + d - Q * (y1 * 4294967296 + y0) ∧ u * 4294967296 + d - Q * (y1 * 4294967296 + y0) < y1 * 4294967296 + y0 := by
  obtain ⟨a1, a2, a3, a4, a5, a6, a7, a8, rfl⟩ := h
  have hm := Int.mul_ediv_add_emod (u * 4294967296 + d) (y1 * 4294967296 + y0)
  rw [Int.mul_comm] at hm
  have h1 := Int.emod_nonneg (u * 4294967296 + d) (show y1 * 4294967296 + y0 ≠ 0 by omega)
  have h2 := Int.emod_lt_of_pos (u * 4294967296 + d) (show 0 < y1 * 4294967296 + y0 by omega)
  omega
theorem Dg.prod {u d y1 y0 Q q : Int} (h : Dg u d y1 y0 Q) (h0 : 0 ≤ q) (hq : q < 4294967296) : 0 ≤ q * y0 ∧ q * y0 < 18446744073709551616 := by
  refine ⟨Int.mul_nonneg h0 h.y0a, ?_⟩
  have h1 : q * y0 ≤ 4294967295 * y0 := Int.mul_le_mul_of_nonneg_right (by omega) h.y0a
  have := h.y0b
  omega

/-- The length in bits. -/
theorem bl_bounds : ∀ (f x : Nat), x < 2 ^ f → x ≠ 0 → ∃ k, Lib.bitLenAux f x = k + 1 ∧ 2 ^ k ≤ x ∧ x < 2 ^ (k + 1)
  | 0, x, h, h0 => by simp at h; omega
  | f + 1, x, h, h0 => by
    rw [Lib.bitLenAux, if_neg h0]
    by_cases h2 : x / 2 = 0
    · rw [h2]
      refine ⟨0, by cases f <;> simp [Lib.bitLenAux], by simp; omega, by simp; omega⟩
    · rw [Nat.pow_succ] at h
      obtain ⟨k, e, h3, h4⟩ := bl_bounds f (x / 2) (by omega) h2
      refine ⟨k + 1, by rw [e, Nat.add_comm], ?_, ?_⟩
      · rw [Nat.pow_succ]; omega
      · rw [Nat.pow_succ]; omega
/-- The divisor is moved to the left: its greatest bit is the 64th. -/
theorem shl_norm {y : Int} (h0 : 0 < y) (h1 : y < 68719476736) : ∃ s : Nat, (Lib.bitLen y.toNat : Int) = 64 - s ∧ (28 ≤ s ∧ s < 64) ∧ 9223372036854775808 ≤ y * 2 ^ s ∧ y * 2 ^ s < 18446744073709551616 := by
  obtain ⟨n, rfl⟩ := Int.eq_ofNat_of_zero_le (show 0 ≤ y by omega)
  rw [Int.toNat_natCast]
  have hb := Lib.bitLen_le n 36 (by omega) (by omega)
  obtain ⟨k, g1, g2, g3⟩ := bl_bounds 64 n (by omega) (by omega)
  change Lib.bitLen n = k + 1 at g1
  rw [g1] at hb ⊢
  refine ⟨63 - k, by omega, by omega, ?_, ?_⟩
  · have : 2 ^ k * 2 ^ (63 - k) ≤ n * 2 ^ (63 - k) := Nat.mul_le_mul_right _ g2
    rw [← Nat.pow_add, show k + (63 - k) = 63 by omega] at this
    have h2 : (((2 : Nat) ^ 63 : Nat) : Int) ≤ ((n * 2 ^ (63 - k) : Nat) : Int) := Int.ofNat_le.2 this
    rw [Int.natCast_mul, Int.natCast_pow] at h2
    exact h2
  · have : n * 2 ^ (63 - k) < 2 ^ (k + 1) * 2 ^ (63 - k) := Nat.mul_lt_mul_of_pos_right g3 (Nat.two_pow_pos _)
    rw [← Nat.pow_add, show k + 1 + (63 - k) = 64 by omega] at this
    have h2 : ((n * 2 ^ (63 - k) : Nat) : Int) < (((2 : Nat) ^ 64 : Nat) : Int) := Int.ofNat_lt.2 this
    rw [Int.natCast_mul, Int.natCast_pow] at h2
    exact h2
theorem two_pos (s : Nat) : (0 : Int) < 2 ^ s := Int.pow_pos (by decide)
theorem shl_val {x : Int} {s : Nat} (h0 : 0 ≤ x * 2 ^ s) (h1 : x * 2 ^ s < 18446744073709551616) (hs : s < 64) : IntKind.wrap .u64 (x * 2 ^ Nat.min ((s : Int).toNat) (IntKind.bits .u64)) = x * 2 ^ s := by
  rw [Int.toNat_natCast, show Nat.min s (IntKind.bits .u64) = s from Nat.min_eq_left (by show s ≤ 64; omega), wrap_u64]
  exact Int.emod_eq_of_lt h0 h1
theorem shl_mod {x : Int} {s : Nat} (hs : s < 64) : IntKind.wrap .u64 (x * 2 ^ Nat.min ((s : Int).toNat) (IntKind.bits .u64)) = x * 2 ^ s % 18446744073709551616 := by
  rw [Int.toNat_natCast, show Nat.min s (IntKind.bits .u64) = s from Nat.min_eq_left (by show s ≤ 64; omega), wrap_u64]
theorem shr_val (x : Int) {j : Int} {s : Nat} (hj : j = s) (hs : s < 64) : x.fdiv (2 ^ Nat.min (j.toNat) (IntKind.bits .u64)) = x / 2 ^ s := by
  subst hj
  rw [Int.toNat_natCast, show Nat.min s (IntKind.bits .u64) = s from Nat.min_eq_left (by show s ≤ 64; omega), Int.fdiv_eq_ediv_of_nonneg _ (Int.le_of_lt (two_pos s))]
/-- Two numbers without a common bit. -/
theorem or_val {a b : Int} {s : Nat} (ha : 0 ≤ a) (h : a * 2 ^ s < 18446744073709551616) (hb : 0 ≤ b) (hbs : b < 2 ^ s) (hs : s < 64) : IntKind.wrap .u64 ((BitVec.ofInt (IntKind.bits .u64) (a * 2 ^ s) ||| BitVec.ofInt (IntKind.bits .u64) b).toNat) = a * 2 ^ s + b := by
  obtain ⟨m, rfl⟩ := Int.eq_ofNat_of_zero_le ha
  obtain ⟨n, rfl⟩ := Int.eq_ofNat_of_zero_le hb
  have e : ((m : Int) * 2 ^ s) = ((m * 2 ^ s : Nat) : Int) := by rw [Int.natCast_mul, Int.natCast_pow]; rfl
  rw [e] at h ⊢
  have hbs' : n < 2 ^ s := by
    have : (n : Int) < ((2 ^ s : Nat) : Int) := by rw [Int.natCast_pow]; exact hbs
    exact Int.ofNat_lt.1 this
  have h64 : 2 ^ s ≤ 2 ^ 63 := Nat.pow_le_pow_right (by decide) (by omega)
  have hn : n < 18446744073709551616 := by have : (2 : Nat) ^ 63 = 9223372036854775808 := by decide
                                           omega
  have h1 : (BitVec.ofInt (IntKind.bits .u64) ((m * 2 ^ s : Nat) : Int)).toNat = m * 2 ^ s := by
    rw [BitVec.toNat_ofInt]; show (((m * 2 ^ s : Nat) : Int) % 18446744073709551616).toNat = _; omega
  have h2 : (BitVec.ofInt (IntKind.bits .u64) (n : Int)).toNat = n := by
    rw [BitVec.toNat_ofInt]; show ((n : Int) % 18446744073709551616).toNat = _; omega
  rw [BitVec.toNat_or, h1, h2, Nat.mul_comm m, ← Nat.two_pow_add_eq_or_of_lt hbs', wrap_u64]
  have h3 : m * 2 ^ s + n < 18446744073709551616 := by
    -- the greatest multiple of 2^s below 2^64 is 2^64 - 2^s
    have h4 : 2 ^ s * 2 ^ (64 - s) = 18446744073709551616 := by rw [← Nat.pow_add, show s + (64 - s) = 64 by omega]
    have h5 : m < 2 ^ (64 - s) := by
      refine Nat.lt_of_mul_lt_mul_left (a := 2 ^ s) ?_
      rw [h4, Nat.mul_comm]; omega
    have h6 : (m + 1) * 2 ^ s ≤ 2 ^ (64 - s) * 2 ^ s := Nat.mul_le_mul_right _ h5
    rw [Nat.mul_comm (2 ^ (64 - s)), h4, Nat.add_mul, Nat.one_mul] at h6
    omega
  rw [Nat.mul_comm (2 ^ s)]
  omega
/-- The numerator that is moved to the left. -/
theorem num_shl {hi lo y : Int} {s : Nat} (h0 : 0 ≤ hi) (h1 : hi < y) (l0 : 0 ≤ lo) (l1 : lo < 18446744073709551616) (hs : s < 64) (hy : y * 2 ^ s < 18446744073709551616) :
    (hi * 18446744073709551616 + lo) * 2 ^ s = (hi * 2 ^ s + lo / 2 ^ (64 - s)) * 18446744073709551616 + lo * 2 ^ s % 18446744073709551616 ∧ (0 ≤ lo / 2 ^ (64 - s) ∧ lo / 2 ^ (64 - s) < 2 ^ s) ∧ (0 ≤ hi * 2 ^ s ∧ hi * 2 ^ s < 18446744073709551616) ∧ hi * 2 ^ s + lo / 2 ^ (64 - s) < y * 2 ^ s ∧ 0 ≤ hi * 2 ^ s + lo / 2 ^ (64 - s) := by
  have hp := two_pos s
  have hq := two_pos (64 - s)
  have h4 : (2 : Int) ^ s * 2 ^ (64 - s) = 18446744073709551616 := by rw [← Int.pow_add, show s + (64 - s) = 64 by omega]; rfl
  have e1 : lo * 2 ^ s / 18446744073709551616 = lo / 2 ^ (64 - s) := by
    rw [← h4, Int.mul_comm (2 ^ s), Int.mul_ediv_mul_of_pos_left _ _ hp]
  have hm := Int.mul_ediv_add_emod (lo * 2 ^ s) 18446744073709551616
  rw [e1] at hm
  have d0 : 0 ≤ lo / 2 ^ (64 - s) := Int.ediv_nonneg l0 (Int.le_of_lt hq)
  have d1 : lo / 2 ^ (64 - s) < 2 ^ s := Int.ediv_lt_of_lt_mul hq (by rw [h4]; exact l1)
  have a0 : 0 ≤ hi * 2 ^ s := Int.mul_nonneg h0 (Int.le_of_lt hp)
  have a1 : (hi + 1) * 2 ^ s ≤ y * 2 ^ s := Int.mul_le_mul_of_nonneg_right (by omega) (Int.le_of_lt hp)
  rw [Int.add_mul, Int.one_mul] at a1
  refine ⟨?_, ⟨d0, d1⟩, ⟨a0, by omega⟩, by omega, by omega⟩
  rw [Int.add_mul, Int.add_mul, Int.mul_right_comm]
  omega
/-- The two digits are the quotient, and what is left, moved back, is the rest. -/
theorem div_fin {N y u d1 d0 y1 y0 Q1 Q0 : Int} {s : Nat} (hy : 0 < y) (ey : y * 2 ^ s = y1 * 4294967296 + y0) (eN : N * 2 ^ s = u * 18446744073709551616 + (d1 * 4294967296 + d0))
    (D2 : Dg (u * 4294967296 + d1 - Q1 * (y1 * 4294967296 + y0)) d0 y1 y0 Q0) :
    Q1 * 4294967296 + Q0 = N / y ∧ ((u * 4294967296 + d1 - Q1 * (y1 * 4294967296 + y0)) * 4294967296 + d0 - Q0 * (y1 * 4294967296 + y0)) / 2 ^ s = N % y := by
  have hp := two_pos s
  obtain ⟨r0, r1⟩ := D2.rest
  rw [← ey] at r0 r1 ⊢
  have hY : 0 < y * 2 ^ s := Int.mul_pos hy hp
  have e1 : (Q1 * 4294967296 + Q0) * (y * 2 ^ s) = Q1 * (y * 2 ^ s) * 4294967296 + Q0 * (y * 2 ^ s) := by rw [Int.add_mul, Int.mul_right_comm]
  generalize hR : (u * 4294967296 + d1 - Q1 * (y * 2 ^ s)) * 4294967296 + d0 - Q0 * (y * 2 ^ s) = R at *
  have e2 : N * 2 ^ s = R + (Q1 * 4294967296 + Q0) * (y * 2 ^ s) := by rw [e1, eN, ← hR]; omega
  have q1 : N * 2 ^ s / (y * 2 ^ s) = Q1 * 4294967296 + Q0 := by rw [e2, Int.add_mul_ediv_right _ _ (by omega), Int.ediv_eq_zero_of_lt r0 r1]; omega
  have q2 : N * 2 ^ s % (y * 2 ^ s) = R := by rw [e2, Int.add_mul_emod_self_right, Int.emod_eq_of_lt r0 r1]
  rw [Int.mul_ediv_mul_of_pos_left _ _ hp] at q1
  refine ⟨q1.symm, ?_⟩
  have q3 : N * 2 ^ s % (y * 2 ^ s) = N % y * 2 ^ s := by
    rw [Int.emod_def, Int.mul_ediv_mul_of_pos_left _ _ hp, Int.emod_def, Int.sub_mul]
    congr 1
    rw [Int.mul_right_comm]
  rw [← q2, q3]
  exact Int.mul_ediv_cancel _ (by omega)
end Go.Proofs.Ytepacknnggnifaa
