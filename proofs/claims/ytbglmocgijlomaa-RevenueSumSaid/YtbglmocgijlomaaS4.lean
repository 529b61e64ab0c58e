/- Split, printed for this seat. No statement in sight. -/
import Derived.Lib.BitFns
import Derived.Test.YtbglmocgijlomaaS3
import Derived.Test.YtbglmocgijlomaaShelf
import Derived.Test.YtbglmocgijlomaaS1
/- Long division in halves of 64 bits: plain. No program in sight. -/
namespace Go.Proofs.Ytbglmocgijlomaa
open Go.RowKit

theorem dg_eq (q y1 y0 : Int) : q * (y1 * 4294967296 + y0) = q * y1 * 4294967296 + q * y0 := by rw [Int.mul_add, Int.mul_assoc]
/-- The divisor in halves, the numerator and its digit. -/
structure Dg (u d y1 y0 Q : Int) : Prop where
  y1a : 2147483648 ≤ y1
  y1b : y1 < 4294967296
  y0a : 0 ≤ y0
  y0b : y0 < 4294967296
  ua : 0 ≤ u
  ub : u < y1 * 4294967296 + y0
  da : 0 ≤ d
  db : d < 4294967296
  hQ : Q = (u * 4294967296 + d) / (y1 * 4294967296 + y0)
theorem Dg.Qa {u d y1 y0 Q : Int} (h : Dg u d y1 y0 Q) : 0 ≤ Q ∧ Q < 4294967296 := by
  obtain ⟨a1, a2, a3, a4, a5, a6, a7, a8, rfl⟩ := h
  refine ⟨Int.ediv_nonneg (by omega) (by omega), Int.ediv_lt_of_lt_mul (by omega) ?_⟩
  omega
/-- The number is still too great. -/
theorem Dg.down {u d y1 y0 Q q r : Int} (h : Dg u d y1 y0 Q) (hr : q * y1 + r = u) (hq : 4294967296 ≤ q ∨ 4294967296 * r + d < q * y0) : Q ≤ q - 1 := by
  have hQ := h.Qa
  rcases hq with hq | hq
  · omega
  · have h1 := dg_eq q y1 y0
    obtain ⟨a1, a2, a3, a4, a5, a6, a7, a8, rfl⟩ := h
    have h2 : u * 4294967296 + d < q * (y1 * 4294967296 + y0) := by rw [h1]; omega
    have := Int.ediv_lt_of_lt_mul (by omega) h2
    omega
/-- The number is small enough. -/
theorem Dg.up {u d y1 y0 Q q r : Int} (h : Dg u d y1 y0 Q) (hr : q * y1 + r = u) (hq : q * y0 ≤ 4294967296 * r + d) : q ≤ Q := by
  have h1 := dg_eq q y1 y0
  obtain ⟨a1, a2, a3, a4, a5, a6, a7, a8, rfl⟩ := h
  exact Int.le_ediv_of_mul_le (by omega) (by rw [h1]; omega)
theorem Dg.big {u d y1 y0 Q q r : Int} (h : Dg u d y1 y0 Q) (hr : q * y1 + r = u) (hb : 4294967296 ≤ r) (hq : q ≤ 4294967296) : q ≤ Q := by
  refine h.up hr ?_
  have h1 : q * y0 ≤ 4294967296 * y0 := Int.mul_le_mul_of_nonneg_right hq h.y0a
  have := h.y0b
  have := h.da
  omega
/-- Where the search begins. -/
theorem Dg.start {u d y1 y0 Q : Int} (h : Dg u d y1 y0 Q) : (Q ≤ u / y1 ∧ u / y1 ≤ 4294967297) ∧ (u / y1 * y1 + (u - u / y1 * y1) = u ∧ 0 ≤ u - u / y1 * y1 ∧ u - u / y1 * y1 < 4294967296) ∧ 0 ≤ u / y1 * y1 := by
  have hQ := h.hQ
  obtain ⟨a1, a2, a3, a4, a5, a6, a7, a8, -⟩ := h
  have hm := Int.mul_ediv_add_emod u y1
  rw [Int.mul_comm] at hm
  have h1 := Int.emod_nonneg u (show y1 ≠ 0 by omega)
  have h2 := Int.emod_lt_of_pos u (show 0 < y1 by omega)
  have h3 := Int.ediv_nonneg a5 (show 0 ≤ y1 by omega)
  refine ⟨⟨?_, ?_⟩, ⟨by omega, by omega, by omega⟩, Int.mul_nonneg h3 (by omega)⟩
  · have h4 : u * 4294967296 + d < (u / y1 + 1) * (y1 * 4294967296 + y0) := by
      rw [dg_eq]
      have h5 : (u / y1 + 1) * y1 = u / y1 * y1 + y1 := by rw [Int.add_mul, Int.one_mul]
      have h6 : 0 ≤ (u / y1 + 1) * y0 := Int.mul_nonneg (by omega) a3
      omega
    have := Int.ediv_lt_of_lt_mul (by omega) h4
    omega
  · have : u / y1 < 4294967298 := Int.ediv_lt_of_lt_mul (by omega) (by omega)
    omega
theorem Dg.less {y1 q : Int} : (q - 1) * y1 = q * y1 - y1 := by rw [Int.sub_mul, Int.one_mul]
/-- What is left of the numerator. -/
theorem Dg.rest {u d y1 y0 Q : Int} (h : Dg u d y1 y0 Q) : 0 ≤ u * 4294967296 + d - Q * (y1 * 4294967296 + y0) ∧ u * 4294967296 + d - Q * (y1 * 4294967296 + y0) < y1 * 4294967296 + y0 := by
  obtain ⟨a1, a2, a3, a4, a5, a6, a7, a8, rfl⟩ := h
  have hm := Int.mul_ediv_add_emod (u * 4294967296 + d) (y1 * 4294967296 + y0)
  rw [Int.mul_comm] at hm
  have h1 := Int.emod_nonneg (u * 4294967296 + d) (show y1 * 4294967296 + y0 ≠ 0 by omega)
  have h2 := Int.emod_lt_of_pos (u * 4294967296 + d) (show 0 < y1 * 4294967296 + y0 by omega)
  omega
theorem Dg.prod {u d y1 y0 Q q : Int} (h : Dg u d y1 y0 Q) (h0 : 0 ≤ q) (hq : q < 4294967296) : 0 ≤ q * y0 ∧ q * y0 < 18446744073709551616 := by
  refine ⟨Int.mul_nonneg h0 h.y0a, ?_⟩
  have h1 : q * y0 ≤ 4294967295 * y0 := Int.mul_le_mul_of_nonneg_right (by omega) h.y0a
  have := h.y0b
  omega

/-- The length in bits. -/
theorem bl_bounds : ∀ (f x : Nat), x < 2 ^ f → x ≠ 0 → ∃ k, Lib.bitLenAux f x = k + 1 ∧ 2 ^ k ≤ x ∧ x < 2 ^ (k + 1)
  | 0, x, h, h0 => by simp at h; omega
  | f + 1, x, h, h0 => by
    rw [Lib.bitLenAux, if_neg h0]
    by_cases h2 : x / 2 = 0
    · rw [h2]
      refine ⟨0, by cases f <;> simp [Lib.bitLenAux], by simp; omega, by simp; omega⟩
    · rw [Nat.pow_succ] at h
      obtain ⟨k, e, h3, h4⟩ := bl_bounds f (x / 2) (by omega) h2
      refine ⟨k + 1, by rw [e, Nat.add_comm], ?_, ?_⟩
      · rw [Nat.pow_succ]; omega
      · rw [Nat.pow_succ]; omega
/-- The divisor is moved to the left: its greatest bit is the 64th. -/
theorem shl_norm {y : Int} (h0 : 0 < y) (h1 : y < 68719476736) : ∃ s : Nat, (Lib.bitLen y.toNat : Int) = 64 - s ∧ (28 ≤ s ∧ s < 64) ∧ 9223372036854775808 ≤ y * 2 ^ s ∧ y * 2 ^ s < 18446744073709551616 := by
  obtain ⟨n, rfl⟩ := Int.eq_ofNat_of_zero_le (show 0 ≤ y by omega)
  rw [Int.toNat_natCast]
  have hb := Lib.bitLen_le n 36 (by omega) (by omega)
  obtain ⟨k, g1, g2, g3⟩ := bl_bounds 64 n (by omega) (by omega)
  change Lib.bitLen n = k + 1 at g1
  rw [g1] at hb ⊢
  refine ⟨63 - k, by omega, by omega, ?_, ?_⟩
  · have : 2 ^ k * 2 ^ (63 - k) ≤ n * 2 ^ (63 - k) := Nat.mul_le_mul_right _ g2
    rw [← Nat.pow_add, show k + (63 - k) = 63 by omega] at this
    have h2 : (((2 : Nat) ^ 63 : Nat) : Int) ≤ ((n * 2 ^ (63 - k) : Nat) : Int) := Int.ofNat_le.2 this
    rw [Int.natCast_mul, Int.natCast_pow] at h2
    exact h2
  · have : n * 2 ^ (63 - k) < 2 ^ (k + 1) * 2 ^ (63 - k) := Nat.mul_lt_mul_of_pos_right g3 (Nat.two_pow_pos _)
    rw [← Nat.pow_add, show k + 1 + (63 - k) = 64 by omega] at this
    have h2 : ((n * 2 ^ (63 - k) : Nat) : Int) < (((2 : Nat) ^ 64 : Nat) : Int) := Int.ofNat_lt.2 this
    rw [Int.natCast_mul, Int.natCast_pow] at h2
    exact h2
theorem two_pos (s : Nat) : (0 : Int) < 2 ^ s := Int.pow_pos (by decide)
theorem shl_val {x : Int} {s : Nat} (h0 : 0 ≤ x * 2 ^ s) (h1 : x * 2 ^ s < 18446744073709551616) (hs : s < 64) : IntKind.wrap .u64 (x * 2 ^ Nat.min ((s : Int).toNat) (IntKind.bits .u64)) = x * 2 ^ s := by
  rw [Int.toNat_natCast, show Nat.min s (IntKind.bits .u64) = s from Nat.min_eq_left (by show s ≤ 64; omega), wrap_u64]
  exact Int.emod_eq_of_lt h0 h1
theorem shl_mod {x : Int} {s : Nat} (hs : s < 64) : IntKind.wrap .u64 (x * 2 ^ Nat.min ((s : Int).toNat) (IntKind.bits .u64)) = x * 2 ^ s % 18446744073709551616 := by
  rw [Int.toNat_natCast, show Nat.min s (IntKind.bits .u64) = s from Nat.min_eq_left (by show s ≤ 64; omega), wrap_u64]
theorem shr_val (x : Int) {j : Int} {s : Nat} (hj : j = s) (hs : s < 64) : x.fdiv (2 ^ Nat.min (j.toNat) (IntKind.bits .u64)) = x / 2 ^ s := by
  subst hj
  rw [Int.toNat_natCast, show Nat.min s (IntKind.bits .u64) = s from Nat.min_eq_left (by show s ≤ 64; omega), Int.fdiv_eq_ediv_of_nonneg _ (Int.le_of_lt (two_pos s))]
/-- Two numbers without a common bit. -/
theorem or_val {a b : Int} {s : Nat} (ha : 0 ≤ a) (h : a * 2 ^ s < 18446744073709551616) (hb : 0 ≤ b) (hbs : b < 2 ^ s) (hs : s < 64) : IntKind.wrap .u64 ((BitVec.ofInt (IntKind.bits .u64) (a * 2 ^ s) ||| BitVec.ofInt (IntKind.bits .u64) b).toNat) = a * 2 ^ s + b := by
  obtain ⟨m, rfl⟩ := Int.eq_ofNat_of_zero_le ha
  obtain ⟨n, rfl⟩ := Int.eq_ofNat_of_zero_le hb
  have e : ((m : Int) * 2 ^ s) = ((m * 2 ^ s : Nat) : Int) := by rw [Int.natCast_mul, Int.natCast_pow]; rfl
  rw [e] at h ⊢
  have hbs' : n < 2 ^ s := by
    have : (n : Int) < ((2 ^ s : Nat) : Int) := by rw [Int.natCast_pow]; exact hbs
    exact Int.ofNat_lt.1 this
  have h64 : 2 ^ s ≤ 2 ^ 63 := Nat.pow_le_pow_right (by decide) (by omega)
  have hn : n < 18446744073709551616 := by have : (2 : Nat) ^ 63 = 9223372036854775808 := by decide
                                           omega
  have h1 : (BitVec.ofInt (IntKind.bits .u64) ((m * 2 ^ s : Nat) : Int)).toNat = m * 2 ^ s := by
    rw [BitVec.toNat_ofInt]; show (((m * 2 ^ s : Nat) : Int) % 18446744073709551616).toNat = _; omega
  have h2 : (BitVec.ofInt (IntKind.bits .u64) (n : Int)).toNat = n := by
    rw [BitVec.toNat_ofInt]; show ((n : Int) % 18446744073709551616).toNat = _; omega
  rw [BitVec.toNat_or, h1, h2, Nat.mul_comm m, ← Nat.two_pow_add_eq_or_of_lt hbs', wrap_u64]
  have h3 : m * 2 ^ s + n < 18446744073709551616 := by
    -- the greatest multiple of 2^s below 2^64 is 2^64 - 2^s
    have h4 : 2 ^ s * 2 ^ (64 - s) = 18446744073709551616 := by rw [← Nat.pow_add, show s + (64 - s) = 64 by omega]
    have h5 : m < 2 ^ (64 - s) := by
      refine Nat.lt_of_mul_lt_mul_left (a := 2 ^ s) ?_
      rw [h4, Nat.mul_comm]; omega
    have h6 : (m + 1) * 2 ^ s ≤ 2 ^ (64 - s) * 2 ^ s := Nat.mul_le_mul_right _ h5
    rw [Nat.mul_comm (2 ^ (64 - s)), h4, Nat.add_mul, Nat.one_mul] at h6
    omega
  rw [Nat.mul_comm (2 ^ s)]
  omega
/-- The numerator that is moved to the left. -/
theorem num_shl {hi lo y : Int} {s : Nat} (h0 : 0 ≤ hi) (h1 : hi < y) (l0 : 0 ≤ lo) (l1 : lo < 18446744073709551616) (hs : s < 64) (hy : y * 2 ^ s < 18446744073709551616) :
    (hi * 18446744073709551616 + lo) * 2 ^ s = (hi * 2 ^ s + lo / 2 ^ (64 - s)) * 18446744073709551616 + lo * 2 ^ s % 18446744073709551616 ∧ (0 ≤ lo / 2 ^ (64 - s) ∧ lo / 2 ^ (64 - s) < 2 ^ s) ∧ (0 ≤ hi * 2 ^ s ∧ hi * 2 ^ s < 18446744073709551616) ∧ hi * 2 ^ s + lo / 2 ^ (64 - s) < y * 2 ^ s ∧ 0 ≤ hi * 2 ^ s + lo / 2 ^ (64 - s) := by
  have hp := two_pos s
  have hq := two_pos (64 - s)
  have h4 : (2 : Int) ^ s * 2 ^ (64 - s) = 18446744073709551616 := by rw [← Int.pow_add, show s + (64 - s) = 64 by omega]; rfl
  have e1 : lo * 2 ^ s / 18446744073709551616 = lo / 2 ^ (64 - s) := by
    rw [← h4, Int.mul_comm (2 ^ s), Int.mul_ediv_mul_of_pos_left _ _ hp]
  have hm := Int.mul_ediv_add_emod (lo * 2 ^ s) 18446744073709551616
  rw [e1] at hm
  have d0 : 0 ≤ lo / 2 ^ (64 - s) := Int.ediv_nonneg l0 (Int.le_of_lt hq)
  have d1 : lo / 2 ^ (64 - s) < 2 ^ s := Int.ediv_lt_of_lt_mul hq (by rw [h4]; exact l1)
  have a0 : 0 ≤ hi * 2 ^ s := Int.mul_nonneg h0 (Int.le_of_lt hp)
  have a1 : (hi + 1) * 2 ^ s ≤ y * 2 ^ s := Int.mul_le_mul_of_nonneg_right (by omega) (Int.le_of_lt hp)
  rw [Int.add_mul, Int.one_mul] at a1
  refine ⟨?_, ⟨d0, d1⟩, ⟨a0, by omega⟩, by omega, by omega⟩
  rw [Int.add_mul, Int.add_mul, Int.mul_right_comm]
  omega
/-- The two digits are the quotient, and what is left, moved back, is the rest. -/
theorem div_fin {N y u d1 d0 y1 y0 Q1 Q0 : Int} {s : Nat} (hy : 0 < y) (ey : y * 2 ^ s = y1 * 4294967296 + y0) (eN : N * 2 ^ s = u * 18446744073709551616 + (d1 * 4294967296 + d0))
    (D2 : Dg (u * 4294967296 + d1 - Q1 * (y1 * 4294967296 + y0)) d0 y1 y0 Q0) :
    Q1 * 4294967296 + Q0 = N / y ∧ ((u * 4294967296 + d1 - Q1 * (y1 * 4294967296 + y0)) * 4294967296 + d0 - Q0 * (y1 * 4294967296 + y0)) / 2 ^ s = N % y := by
  have hp := two_pos s
  obtain ⟨r0, r1⟩ := D2.rest
  rw [← ey] at r0 r1 ⊢
  have hY : 0 < y * 2 ^ s := Int.mul_pos hy hp
  have e1 : (Q1 * 4294967296 + Q0) * (y * 2 ^ s) = Q1 * (y * 2 ^ s) * 4294967296 + Q0 * (y * 2 ^ s) := by rw [Int.add_mul, Int.mul_right_comm]
  generalize hR : (u * 4294967296 + d1 - Q1 * (y * 2 ^ s)) * 4294967296 + d0 - Q0 * (y * 2 ^ s) = R at *
  have e2 : N * 2 ^ s = R + (Q1 * 4294967296 + Q0) * (y * 2 ^ s) := by rw [e1, eN, ← hR]; omega
  have q1 : N * 2 ^ s / (y * 2 ^ s) = Q1 * 4294967296 + Q0 := by rw [e2, Int.add_mul_ediv_right _ _ (by omega), Int.ediv_eq_zero_of_lt r0 r1]; omega
  have q2 : N * 2 ^ s % (y * 2 ^ s) = R := by rw [e2, Int.add_mul_emod_self_right, Int.emod_eq_of_lt r0 r1]
  rw [Int.mul_ediv_mul_of_pos_left _ _ hp] at q1
  refine ⟨q1.symm, ?_⟩
  have q3 : N * 2 ^ s % (y * 2 ^ s) = N % y * 2 ^ s := by
    rw [Int.emod_def, Int.mul_ediv_mul_of_pos_left _ _ hp, Int.emod_def, Int.sub_mul]
    congr 1
    rw [Int.mul_right_comm]
  rw [← q2, q3]
  exact Int.mul_ediv_cancel _ (by omega)
end Go.Proofs.Ytbglmocgijlomaa

/- Split: math/bits.LeadingZeros64. -/
namespace Go.Proofs.Ytbglmocgijlomaa
open Go.RowKit Go.Proofs

/-- bits.Len64 by the kit's contract. -/
theorem len64_x (s : St) (x : Int) (h0 : 0 ≤ x) (h1 : x ≤ 18446744073709551615) (K : SV → St → Prop) (hK : K (I (Lib.bitLen x.toNat)) s) : callX Try.prog 88 s [U x] K := by
  refine ⟨fun v s' => v = I (Lib.bitLen x.toNat) ∧ s' = s, fun F w0 ι w us hm hr => ?_, fun v s' h => by obtain ⟨rfl, rfl⟩ := h; exact hK⟩
  obtain ⟨u, ur, rfl, hu, hr⟩ := replist_cons hr
  obtain rfl := replist_nil hr
  obtain rfl := rep_int hu
  refine Calls.mono (calls_of_every_depth fun D => AnySM.bits_Len64InS Try.len64A D x w h0 h1) ?_
  rintro e w' ⟨rfl, rfl⟩
  exact ⟨_, rfl, .refl _, ι, _, s, rfl, step_nop hm, .c _ _ (.int ..), rfl, rfl⟩

/-! math/bits.LeadingZeros64 -/
def lzIr : IFn := ⟨6, [.tmp 2],
  (.seq (.ops [
    ⟨(some 2), .mov, [.const (.int .i64 0)], none⟩] false)
  (.seq (.ops [
    ⟨(some 3), .mov, [.tmp 0], none⟩,
    ⟨(some 4), .callx 88, [.tmp 3], none⟩,
    ⟨(some 5), .bin .sub .i64 false, [.const (.int .i64 64), .tmp 4], none⟩,
    ⟨(some 2), .mov, [.tmp 5], none⟩] false)
  .ret))⟩
theorem lzLow : lowF Try.prog { exts := [4] } Try.f82 = some lzIr := by kernel_rfl
def lzS : Spec := spec Int (fun y => [U y]) (fun y => 0 < y ∧ y < 68719476736) (fun y => I (64 - Lib.bitLen y.toNat))
theorem lzV : fnV Try.prog lzIr lzS := by
  intro (y : Int) hx
  obtain ⟨y0, y1⟩ : 0 < y ∧ y < 68719476736 := hx
  obtain ⟨s, hb, hs, -⟩ := shl_norm y0 y1
  show vc _ _ _ _ ⟨argEnv 0 [U y], [], 0⟩
  conv => whnf
  refine len64_x _ y (by omega) (by omega) _ ?_
  repeat' ((conv => whnf); first | refine ⟨⟨by omega, by omega⟩, ?_⟩ | fail)
  exact ⟨[], rfl, trivial, rfl⟩
theorem lz_h : Holds Try.prog 82 lzS := holds_of mix Try.func82 lzLow (fun _ => rfl) lzV

end Go.Proofs.Ytbglmocgijlomaa

/- Split: math/bits.Div64. -/
namespace Go.Proofs.Ytbglmocgijlomaa
open Go.RowKit

/-! math/bits.Div64 -/
def divIr : IFn := ⟨135, [.tmp 6, .tmp 7],
  (.seq (.ops [
    ⟨(some 6), .mov, [.const (.int .u64 0)], none⟩,
    ⟨(some 7), .mov, [.const (.int .u64 0)], none⟩] false)
  (.seq (.seq (.ops [
    ⟨(some 19), .mov, [.tmp 2], none⟩,
    ⟨(some 20), .cmp .eql, [.tmp 19, .const (.int .u64 0)], none⟩] false)
  (.cond (.tmp 20)
    (.ops [
      ⟨(some 21), .load 1 false, [.global 0], none⟩,
      ⟨none, .bad, [], none⟩] false)
    .skip))
  (.seq (.seq (.ops [
    ⟨(some 22), .mov, [.tmp 2], none⟩,
    ⟨(some 23), .mov, [.tmp 0], none⟩,
    ⟨(some 24), .cmp .leq, [.tmp 22, .tmp 23], none⟩] false)
  (.cond (.tmp 24)
    (.ops [
      ⟨(some 25), .load 1 false, [.global 1], none⟩,
      ⟨none, .bad, [], none⟩] false)
    .skip))
  (.seq (.seq (.ops [
    ⟨(some 26), .mov, [.tmp 0], none⟩,
    ⟨(some 27), .cmp .eql, [.tmp 26, .const (.int .u64 0)], none⟩] false)
  (.cond (.tmp 27)
    (.seq (.ops [
      ⟨(some 28), .mov, [.tmp 1], none⟩,
      ⟨(some 29), .mov, [.tmp 2], none⟩,
      ⟨(some 30), .bin .quo .u64 false, [.tmp 28, .tmp 29], none⟩,
      ⟨(some 31), .mov, [.tmp 1], none⟩,
      ⟨(some 32), .mov, [.tmp 2], none⟩,
      ⟨(some 33), .bin .rem .u64 false, [.tmp 31, .tmp 32], none⟩,
      ⟨(some 6), .mov, [.tmp 30], none⟩,
      ⟨(some 7), .mov, [.tmp 33], none⟩] true)
    .ret)
    .skip))
  (.seq (.ops [
    ⟨(some 34), .mov, [.tmp 2], none⟩,
    ⟨(some 35), .call 82, [.tmp 34], none⟩,
    ⟨(some 36), .conv .u64, [.tmp 35], none⟩,
    ⟨(some 8), .mov, [.tmp 36], none⟩] false)
  (.seq (.ops [
    ⟨(some 37), .mov, [.tmp 2], none⟩,
    ⟨(some 38), .mov, [.tmp 8], none⟩,
    ⟨(some 39), .bin .shl .u64 false, [.tmp 37, .tmp 38], none⟩,
    ⟨(some 2), .mov, [.tmp 39], none⟩] false)
  (.seq (.ops [
    ⟨(some 40), .mov, [.tmp 2], none⟩,
    ⟨(some 41), .bin .shr .u64 false, [.tmp 40, .const (.int .u64 32)], none⟩,
    ⟨(some 9), .mov, [.tmp 41], none⟩] false)
  (.seq (.ops [
    ⟨(some 42), .mov, [.tmp 2], none⟩,
    ⟨(some 43), .bin .and .u64 false, [.tmp 42, .const (.int .u64 4294967295)], none⟩,
    ⟨(some 10), .mov, [.tmp 43], none⟩] false)
  (.seq (.ops [
    ⟨(some 44), .mov, [.tmp 0], none⟩,
    ⟨(some 45), .mov, [.tmp 8], none⟩,
    ⟨(some 46), .bin .shl .u64 false, [.tmp 44, .tmp 45], none⟩,
    ⟨(some 47), .mov, [.tmp 1], none⟩,
    ⟨(some 48), .mov, [.tmp 8], none⟩,
    ⟨(some 49), .bin .sub .u64 false, [.const (.int .u64 64), .tmp 48], none⟩,
    ⟨(some 50), .bin .shr .u64 false, [.tmp 47, .tmp 49], none⟩,
    ⟨(some 51), .bin .or .u64 false, [.tmp 46, .tmp 50], none⟩,
    ⟨(some 11), .mov, [.tmp 51], none⟩] false)
  (.seq (.ops [
    ⟨(some 52), .mov, [.tmp 1], none⟩,
    ⟨(some 53), .mov, [.tmp 8], none⟩,
    ⟨(some 54), .bin .shl .u64 false, [.tmp 52, .tmp 53], none⟩,
    ⟨(some 12), .mov, [.tmp 54], none⟩] false)
  (.seq (.ops [
    ⟨(some 55), .mov, [.tmp 12], none⟩,
    ⟨(some 56), .bin .shr .u64 false, [.tmp 55, .const (.int .u64 32)], none⟩,
    ⟨(some 13), .mov, [.tmp 56], none⟩] false)
  (.seq (.ops [
    ⟨(some 57), .mov, [.tmp 12], none⟩,
    ⟨(some 58), .bin .and .u64 false, [.tmp 57, .const (.int .u64 4294967295)], none⟩,
    ⟨(some 14), .mov, [.tmp 58], none⟩] false)
  (.seq (.ops [
    ⟨(some 59), .mov, [.tmp 11], none⟩,
    ⟨(some 60), .mov, [.tmp 9], none⟩,
    ⟨(some 61), .bin .quo .u64 false, [.tmp 59, .tmp 60], none⟩,
    ⟨(some 15), .mov, [.tmp 61], none⟩] false)
  (.seq (.ops [
    ⟨(some 62), .mov, [.tmp 11], none⟩,
    ⟨(some 63), .mov, [.tmp 15], none⟩,
    ⟨(some 64), .mov, [.tmp 9], none⟩,
    ⟨(some 65), .bin .mul .u64 false, [.tmp 63, .tmp 64], none⟩,
    ⟨(some 66), .bin .sub .u64 false, [.tmp 62, .tmp 65], none⟩,
    ⟨(some 16), .mov, [.tmp 66], none⟩] false)
  (.seq (.block 0
    (.loop
      (.seq (.seq (.ops [
        ⟨(some 67), .mov, [.tmp 15], none⟩,
        ⟨(some 68), .cmp .geq, [.tmp 67, .const (.int .u64 4294967296)], none⟩,
        ⟨(some 69), .mov, [.tmp 68], none⟩,
        ⟨(some 70), .mov, [.tmp 15], (some (69, false))⟩,
        ⟨(some 71), .mov, [.tmp 10], (some (69, false))⟩,
        ⟨(some 72), .bin .mul .u64 false, [.tmp 70, .tmp 71], (some (69, false))⟩,
        ⟨(some 73), .mov, [.tmp 16], (some (69, false))⟩,
        ⟨(some 74), .bin .mul .u64 false, [.const (.int .u64 4294967296), .tmp 73], (some (69, false))⟩,
        ⟨(some 75), .mov, [.tmp 13], (some (69, false))⟩,
        ⟨(some 76), .bin .add .u64 false, [.tmp 74, .tmp 75], (some (69, false))⟩,
        ⟨(some 77), .cmp .gtr, [.tmp 72, .tmp 76], (some (69, false))⟩,
        ⟨(some 78), .pick, [.tmp 69, .const (.bool true), .tmp 77], none⟩] false)
      (.cond (.tmp 78)
        .skip
        (.exit 0)))
      (.block 1
        (.seq (.ops [
          ⟨(some 79), .mov, [.tmp 15], none⟩,
          ⟨(some 80), .bin .sub .u64 false, [.tmp 79, .const (.int .u64 1)], none⟩,
          ⟨(some 15), .mov, [.tmp 80], none⟩] false)
        (.seq (.ops [
          ⟨(some 81), .mov, [.tmp 16], none⟩,
          ⟨(some 82), .mov, [.tmp 9], none⟩,
          ⟨(some 83), .bin .add .u64 false, [.tmp 81, .tmp 82], none⟩,
          ⟨(some 16), .mov, [.tmp 83], none⟩] false)
        (.seq (.ops [
          ⟨(some 84), .mov, [.tmp 16], none⟩,
          ⟨(some 85), .cmp .geq, [.tmp 84, .const (.int .u64 4294967296)], none⟩] false)
        (.cond (.tmp 85)
          (.exit 0)
          .skip))))))))
  (.seq (.ops [
    ⟨(some 86), .mov, [.tmp 11], none⟩,
    ⟨(some 87), .bin .mul .u64 true, [.tmp 86, .const (.int .u64 4294967296)], none⟩,
    ⟨(some 88), .mov, [.tmp 13], none⟩,
    ⟨(some 89), .bin .add .u64 true, [.tmp 87, .tmp 88], none⟩,
    ⟨(some 90), .mov, [.tmp 15], none⟩,
    ⟨(some 91), .mov, [.tmp 2], none⟩,
    ⟨(some 92), .bin .mul .u64 true, [.tmp 90, .tmp 91], none⟩,
    ⟨(some 93), .bin .sub .u64 true, [.tmp 89, .tmp 92], none⟩,
    ⟨(some 17), .mov, [.tmp 93], none⟩] false)
  (.seq (.ops [
    ⟨(some 94), .mov, [.tmp 17], none⟩,
    ⟨(some 95), .mov, [.tmp 9], none⟩,
    ⟨(some 96), .bin .quo .u64 false, [.tmp 94, .tmp 95], none⟩,
    ⟨(some 18), .mov, [.tmp 96], none⟩] false)
  (.seq (.ops [
    ⟨(some 97), .mov, [.tmp 17], none⟩,
    ⟨(some 98), .mov, [.tmp 18], none⟩,
    ⟨(some 99), .mov, [.tmp 9], none⟩,
    ⟨(some 100), .bin .mul .u64 false, [.tmp 98, .tmp 99], none⟩,
    ⟨(some 101), .bin .sub .u64 false, [.tmp 97, .tmp 100], none⟩,
    ⟨(some 16), .mov, [.tmp 101], none⟩] false)
  (.seq (.block 2
    (.loop
      (.seq (.seq (.ops [
        ⟨(some 102), .mov, [.tmp 18], none⟩,
        ⟨(some 103), .cmp .geq, [.tmp 102, .const (.int .u64 4294967296)], none⟩,
        ⟨(some 104), .mov, [.tmp 103], none⟩,
        ⟨(some 105), .mov, [.tmp 18], (some (104, false))⟩,
        ⟨(some 106), .mov, [.tmp 10], (some (104, false))⟩,
        ⟨(some 107), .bin .mul .u64 false, [.tmp 105, .tmp 106], (some (104, false))⟩,
        ⟨(some 108), .mov, [.tmp 16], (some (104, false))⟩,
        ⟨(some 109), .bin .mul .u64 false, [.const (.int .u64 4294967296), .tmp 108], (some (104, false))⟩,
        ⟨(some 110), .mov, [.tmp 14], (some (104, false))⟩,
        ⟨(some 111), .bin .add .u64 false, [.tmp 109, .tmp 110], (some (104, false))⟩,
        ⟨(some 112), .cmp .gtr, [.tmp 107, .tmp 111], (some (104, false))⟩,
        ⟨(some 113), .pick, [.tmp 104, .const (.bool true), .tmp 112], none⟩] false)
      (.cond (.tmp 113)
        .skip
        (.exit 2)))
      (.block 3
        (.seq (.ops [
          ⟨(some 114), .mov, [.tmp 18], none⟩,
          ⟨(some 115), .bin .sub .u64 false, [.tmp 114, .const (.int .u64 1)], none⟩,
          ⟨(some 18), .mov, [.tmp 115], none⟩] false)
        (.seq (.ops [
          ⟨(some 116), .mov, [.tmp 16], none⟩,
          ⟨(some 117), .mov, [.tmp 9], none⟩,
          ⟨(some 118), .bin .add .u64 false, [.tmp 116, .tmp 117], none⟩,
          ⟨(some 16), .mov, [.tmp 118], none⟩] false)
        (.seq (.ops [
          ⟨(some 119), .mov, [.tmp 16], none⟩,
          ⟨(some 120), .cmp .geq, [.tmp 119, .const (.int .u64 4294967296)], none⟩] false)
        (.cond (.tmp 120)
          (.exit 2)
          .skip))))))))
  (.seq (.ops [
    ⟨(some 121), .mov, [.tmp 15], none⟩,
    ⟨(some 122), .bin .mul .u64 false, [.tmp 121, .const (.int .u64 4294967296)], none⟩,
    ⟨(some 123), .mov, [.tmp 18], none⟩,
    ⟨(some 124), .bin .add .u64 false, [.tmp 122, .tmp 123], none⟩,
    ⟨(some 125), .mov, [.tmp 17], none⟩,
    ⟨(some 126), .bin .mul .u64 true, [.tmp 125, .const (.int .u64 4294967296)], none⟩,
    ⟨(some 127), .mov, [.tmp 14], none⟩,
    ⟨(some 128), .bin .add .u64 true, [.tmp 126, .tmp 127], none⟩,
    ⟨(some 129), .mov, [.tmp 18], none⟩,
    ⟨(some 130), .mov, [.tmp 2], none⟩,
    ⟨(some 131), .bin .mul .u64 true, [.tmp 129, .tmp 130], none⟩,
    ⟨(some 132), .bin .sub .u64 true, [.tmp 128, .tmp 131], none⟩,
    ⟨(some 133), .mov, [.tmp 8], none⟩,
    ⟨(some 134), .bin .shr .u64 false, [.tmp 132, .tmp 133], none⟩,
    ⟨(some 6), .mov, [.tmp 124], none⟩,
    ⟨(some 7), .mov, [.tmp 134], none⟩] false)
  .ret))))))))))))))))))))⟩
theorem divLow : lowF Try.prog { wraps := [87, 89, 92, 93, 126, 128, 131, 132] } Try.f63 = some divIr := by kernel_rfl
def divS : Spec := spec (Int × Int × Int) (fun p => [U p.1, U p.2.1, U p.2.2]) (fun p => ((0 ≤ p.1 ∧ p.1 < p.2.2) ∧ p.2.2 < 68719476736) ∧ 0 ≤ p.2.1 ∧ p.2.1 < 18446744073709551616) (fun p => .tup [U ((p.1 * 18446744073709551616 + p.2.1) / p.2.2), U ((p.1 * 18446744073709551616 + p.2.1) % p.2.2)])
set_option maxHeartbeats 2000000 in
theorem divV : fnV Try.prog divIr divS := by
  intro ⟨(hi : Int), (lo : Int), (y : Int)⟩ hx
  obtain ⟨⟨⟨h0, h1⟩, hy⟩, l0, l1⟩ : ((0 ≤ hi ∧ hi < y) ∧ y < 68719476736) ∧ 0 ≤ lo ∧ lo < 18446744073709551616 := hx
  show vc _ _ _ _ ⟨argEnv 0 [U hi, U lo, U y], [], 0⟩
  by_cases hz : hi = 0
  · subst hz
    have ed := Int.tdiv_eq_ediv_of_nonneg (b := y) l0
    have em := Int.tmod_eq_emod_of_nonneg (b := y) l0
    have d0 := Int.ediv_nonneg l0 (show 0 ≤ y by omega)
    have d1 := Int.ediv_le_self y l0
    repeat' ((conv => whnf); first | (refine ⟨fun h => ?_, fun h => ?_⟩ <;> try (exfalso; first | omega | exact absurd h (by decide) | exact h rfl)) | (refine ⟨⟨by omega, inR_u64 (by omega) (by omega)⟩, ?_⟩; rw [ed]) | (refine ⟨by omega, ?_⟩; rw [em]) | fail)
    refine ⟨[], rfl, trivial, ?_⟩
    show leR _ (.tup [U ((0 * 18446744073709551616 + lo) / y), U ((0 * 18446744073709551616 + lo) % y)])
    rw [Int.zero_mul, Int.zero_add]
    exact ⟨rfl, rfl, trivial⟩
  obtain ⟨s, hb, ⟨s0, s1⟩, n0, n1⟩ := shl_norm (y := y) (by omega) hy
  have hlz : 64 - (Lib.bitLen y.toNat : Int) = s := by omega
  obtain ⟨eN, ⟨b0, b1⟩, ⟨a0, a1⟩, u1, u0⟩ := num_shl h0 h1 l0 l1 s1 n1
  have e1 := shl_val (x := y) (s := s) (by omega) n1 s1
  have e2 := shl_val (x := hi) (s := s) a0 a1 s1
  have e3 := shr_val lo (j := 64 - (s : Int)) (s := 64 - s) (by omega) (by omega)
  have e4 := or_val (a := hi) (s := s) h0 a1 b0 b1 s1
  have e5 := shl_mod (x := lo) (s := s) s1
  have e6 := low32 (y * 2 ^ s)
  have e7 := low32 (lo * 2 ^ s % 18446744073709551616)
  have ey : y * 2 ^ s = y * 2 ^ s / 4294967296 * 4294967296 + y * 2 ^ s % 4294967296 := by omega
  have ed : lo * 2 ^ s % 18446744073709551616 = lo * 2 ^ s % 18446744073709551616 / 4294967296 * 4294967296 + lo * 2 ^ s % 18446744073709551616 % 4294967296 := by omega
  have m0 : 0 ≤ lo * 2 ^ s % 18446744073709551616 ∧ lo * 2 ^ s % 18446744073709551616 < 18446744073709551616 := ⟨Int.emod_nonneg _ (by decide), Int.emod_lt_of_pos _ (by decide)⟩
  have e8 := shr32 (y * 2 ^ s)
  have e9 := shr32 (lo * 2 ^ s % 18446744073709551616)
  rw [e4.symm.trans e4] at u1
  generalize hu : hi * 2 ^ s + lo / 2 ^ (64 - s) = u at *
  generalize hY : y * 2 ^ s = Y at *
  generalize hM : lo * 2 ^ s % 18446744073709551616 = M at *
  obtain ⟨y1, hy1⟩ : ∃ y1, y1 = Y / 4294967296 := ⟨_, rfl⟩
  obtain ⟨y0, hy0⟩ : ∃ y0, y0 = Y % 4294967296 := ⟨_, rfl⟩
  obtain ⟨d1, hd1⟩ : ∃ d1, d1 = M / 4294967296 := ⟨_, rfl⟩
  obtain ⟨d0, hd0⟩ : ∃ d0, d0 = M % 4294967296 := ⟨_, rfl⟩
  rw [← hy0] at e6
  rw [← hd0] at e7
  rw [← hy1] at e8
  rw [← hd1] at e9
  have eY : Y = y1 * 4294967296 + y0 := by omega
  obtain ⟨Q1, hQ1⟩ : ∃ Q, Q = (u * 4294967296 + d1) / (y1 * 4294967296 + y0) := ⟨_, rfl⟩
  have D1 : Dg u d1 y1 y0 Q1 := ⟨by omega, by omega, by omega, by omega, by omega, by omega, by omega, by omega, hQ1⟩
  have D1s := D1.start
  obtain ⟨r0, r1⟩ := D1.rest
  obtain ⟨v, hv⟩ : ∃ v, v = u * 4294967296 + d1 - Q1 * (y1 * 4294967296 + y0) := ⟨_, rfl⟩
  rw [← hv] at r0 r1
  obtain ⟨Q0, hQ0⟩ : ∃ Q, Q = (v * 4294967296 + d0) / (y1 * 4294967296 + y0) := ⟨_, rfl⟩
  have D2 : Dg v d0 y1 y0 Q0 := ⟨by omega, by omega, by omega, by omega, r0, r1, by omega, by omega, hQ0⟩
  have D2s := D2.start
  have t1 := Int.tdiv_eq_ediv_of_nonneg (b := y1) u0
  have t2 := Int.tdiv_eq_ediv_of_nonneg (b := y1) r0
  have f0 := Int.ediv_nonneg u0 (show 0 ≤ y1 by omega)
  have f1 := Int.ediv_nonneg r0 (show 0 ≤ y1 by omega)
  have hq1 := D1.Qa
  have hq0 := D2.Qa
  have hvY : v = u * 4294967296 + d1 - Q1 * Y := by rw [eY]; exact hv
  have hw1 : IntKind.wrap .u64 (IntKind.wrap .u64 (IntKind.wrap .u64 (u * 4294967296) + d1) - IntKind.wrap .u64 (Q1 * Y)) = v := by
    rw [wrap_u64, wrap_u64, wrap_u64, wrap_u64]; omega
  obtain ⟨g0, g1⟩ := D2.rest
  obtain ⟨R, hR⟩ : ∃ R, R = v * 4294967296 + d0 - Q0 * (y1 * 4294967296 + y0) := ⟨_, rfl⟩
  rw [← hR] at g0 g1
  have hRY : R = v * 4294967296 + d0 - Q0 * Y := by rw [eY]; exact hR
  have hw2 : IntKind.wrap .u64 (IntKind.wrap .u64 (IntKind.wrap .u64 (v * 4294967296) + d0) - IntKind.wrap .u64 (Q0 * Y)) = R := by
    rw [wrap_u64, wrap_u64, wrap_u64, wrap_u64]; omega
  have hfin := div_fin (N := hi * 18446744073709551616 + lo) (y := y) (s := s) (u := u) (d1 := d1) (d0 := d0) (y1 := y1) (y0 := y0) (Q1 := Q1) (Q0 := Q0) (by omega) (by rw [hY]; exact eY) (by rw [eN]; omega) (by rw [← hv]; exact D2)
  rw [← hv, ← hR] at hfin
  obtain ⟨hN1, hN2⟩ := hfin
  repeat' ((conv => whnf); first | (refine ⟨fun h => ?_, fun h => ?_⟩ <;> try (exfalso; first | omega | exact absurd h (by decide) | exact h rfl)) | (refine ⟨_, lz_h, y, (by show 0 < y ∧ y < 68719476736; omega), leVs_of_eq rfl, .inl rfl, rfl, ?_⟩; show norm (I (64 - Lib.bitLen y.toNat)) _; rw [hlz]) | (refine ⟨by omega, ?_⟩; first | rw [e1] | rw [e2] | rw [e3] | rw [e5]) | (rw [e4]) | (rw [e6]) | (rw [e7]) | (refine ⟨by decide, ?_⟩; first | rw [e8] | rw [e9]) | (refine ⟨⟨by omega, by rw [t1]; exact inR_u64 (by omega) (by omega)⟩, ?_⟩; rw [t1]) | (refine ⟨inR_u64 (by omega) (by omega), ?_⟩) | fail | fail)
  refine ⟨Int × Int, fun xq => ⟨[(2, U Y), (8, U s), (9, U y1), (10, U y0), (11, U u), (13, U d1), (14, U d0), (15, U xq.1), (16, U xq.2)], [], 0⟩, fun xq => ((xq.1 * y1 + xq.2 = u ∧ Q1 ≤ xq.1) ∧ xq.1 ≤ 4294967297) ∧ 0 ≤ xq.2 ∧ xq.2 < 4294967296, fun xq => xq.1.toNat, ⟨(_, _), ?_, [], ⟨⟨rfl, rfl⟩, ⟨⟨rfl, rfl⟩, ⟨⟨rfl, rfl⟩, ⟨⟨rfl, rfl⟩, ⟨⟨rfl, rfl⟩, ⟨⟨rfl, rfl⟩, ⟨⟨rfl, rfl⟩, ⟨⟨rfl, rfl⟩, ⟨⟨rfl, rfl⟩, trivial⟩⟩⟩⟩⟩⟩⟩⟩⟩, trivial, rfl, rfl, rfl⟩, ?_⟩
  · (try dsimp only); exact ⟨⟨⟨D1s.2.1.1, D1s.1.1⟩, D1s.1.2⟩, D1s.2.1.2⟩
  rintro ⟨q, r⟩ hk
  obtain ⟨⟨⟨hr, hQq⟩, hq1⟩, r0, r1⟩ : ((q * y1 + r = u ∧ Q1 ≤ q) ∧ q ≤ 4294967297) ∧ 0 ≤ r ∧ r < 4294967296 := hk
  (try dsimp only)
  have hQ := D1.Qa
  have hless : (q - 1) * y1 = q * y1 - y1 := Dg.less
  by_cases hc : 4294967296 ≤ q ∨ 4294967296 * r + d1 < q * y0
  · have hd := D1.down hr hc
    have hr' : (q - 1) * y1 + (r + y1) = u := by omega
    by_cases hbk : 4294967296 ≤ r + y1
    · have he : q - 1 = Q1 := Int.le_antisymm (D1.big hr' hbk (by omega)) hd
      by_cases hqb : 4294967296 ≤ q
      · repeat' ((conv => whnf); first | (refine ⟨fun h => ?_, fun h => ?_⟩ <;> try (exfalso; first | omega | exact absurd h (by decide) | exact h rfl)) | (refine ⟨inR_u64 (by omega) (by omega), ?_⟩) | (rw [he]) | fail)
        repeat' ((conv => whnf); first | (rw [hw1]) | (refine ⟨⟨by omega, by rw [t2]; exact inR_u64 (by omega) (by omega)⟩, ?_⟩; rw [t2]) | (refine ⟨inR_u64 (by omega) (by omega), ?_⟩) | fail | fail)
        refine ⟨Int × Int, fun xq => ⟨[(2, U Y), (8, U s), (9, U y1), (10, U y0), (14, U d0), (15, U Q1), (17, U v), (18, U xq.1), (16, U xq.2)], [], 0⟩, fun xq => ((xq.1 * y1 + xq.2 = v ∧ Q0 ≤ xq.1) ∧ xq.1 ≤ 4294967297) ∧ 0 ≤ xq.2 ∧ xq.2 < 4294967296, fun xq => xq.1.toNat, ⟨(_, _), ?_, [], ⟨⟨rfl, rfl⟩, ⟨⟨rfl, rfl⟩, ⟨⟨rfl, rfl⟩, ⟨⟨rfl, rfl⟩, ⟨⟨rfl, rfl⟩, ⟨⟨rfl, rfl⟩, ⟨⟨rfl, rfl⟩, ⟨⟨rfl, rfl⟩, ⟨⟨rfl, rfl⟩, trivial⟩⟩⟩⟩⟩⟩⟩⟩⟩, trivial, rfl, rfl, rfl⟩, ?_⟩
        · (try dsimp only); exact ⟨⟨⟨D2s.2.1.1, D2s.1.1⟩, D2s.1.2⟩, D2s.2.1.2⟩
        rintro ⟨q, r⟩ hk
        obtain ⟨⟨⟨hr, hQq⟩, hq1⟩, r0, r1⟩ : ((q * y1 + r = v ∧ Q0 ≤ q) ∧ q ≤ 4294967297) ∧ 0 ≤ r ∧ r < 4294967296 := hk
        (try dsimp only)
        have hQ := D2.Qa
        have hless : (q - 1) * y1 = q * y1 - y1 := Dg.less
        by_cases hc : 4294967296 ≤ q ∨ 4294967296 * r + d0 < q * y0
        · have hd := D2.down hr hc
          have hr' : (q - 1) * y1 + (r + y1) = v := by omega
          by_cases hbk : 4294967296 ≤ r + y1
          · have he : q - 1 = Q0 := Int.le_antisymm (D2.big hr' hbk (by omega)) hd
            by_cases hqb : 4294967296 ≤ q
            · repeat' ((conv => whnf); first | (refine ⟨fun h => ?_, fun h => ?_⟩ <;> try (exfalso; first | omega | exact absurd h (by decide) | exact h rfl)) | (refine ⟨inR_u64 (by omega) (by omega), ?_⟩) | (rw [he]) | fail)
              repeat' ((conv => whnf); first | (rw [hw2]) | (refine ⟨by omega, ?_⟩; rw [shr_val R rfl s1]) | (refine ⟨inR_u64 (by omega) (by omega), ?_⟩) | fail | fail)
              refine ⟨[], rfl, trivial, ?_⟩
              show leR _ (.tup [U ((hi * 18446744073709551616 + lo) / y), U ((hi * 18446744073709551616 + lo) % y)])
              rw [← hN1, ← hN2]
              exact ⟨rfl, rfl, trivial⟩
            · have hp := D2.prod (q := q) (by omega) (by omega)
              repeat' ((conv => whnf); first | (refine ⟨fun h => ?_, fun h => ?_⟩ <;> try (exfalso; first | omega | exact absurd h (by decide) | exact h rfl)) | (refine ⟨inR_u64 (by omega) (by omega), ?_⟩) | (rw [he]) | fail)
              repeat' ((conv => whnf); first | (rw [hw2]) | (refine ⟨by omega, ?_⟩; rw [shr_val R rfl s1]) | (refine ⟨inR_u64 (by omega) (by omega), ?_⟩) | fail | fail)
              refine ⟨[], rfl, trivial, ?_⟩
              show leR _ (.tup [U ((hi * 18446744073709551616 + lo) / y), U ((hi * 18446744073709551616 + lo) % y)])
              rw [← hN1, ← hN2]
              exact ⟨rfl, rfl, trivial⟩
          · by_cases hqb : 4294967296 ≤ q
            · repeat' ((conv => whnf); first | (refine ⟨fun h => ?_, fun h => ?_⟩ <;> try (exfalso; first | omega | exact absurd h (by decide) | exact h rfl)) | (refine ⟨(_, _), ⟨?_, by (try dsimp only); omega⟩, [], ⟨⟨rfl, rfl⟩, ⟨⟨rfl, rfl⟩, ⟨⟨rfl, rfl⟩, ⟨⟨rfl, rfl⟩, ⟨⟨rfl, rfl⟩, ⟨⟨rfl, rfl⟩, ⟨⟨rfl, rfl⟩, ⟨⟨rfl, rfl⟩, ⟨⟨rfl, rfl⟩, trivial⟩⟩⟩⟩⟩⟩⟩⟩⟩, trivial, rfl, rfl, rfl⟩; (try dsimp only); exact ⟨⟨⟨hr', hd⟩, by omega⟩, by omega, by omega⟩) | (refine ⟨inR_u64 (by omega) (by omega), ?_⟩) | fail)
            · have hp := D2.prod (q := q) (by omega) (by omega)
              repeat' ((conv => whnf); first | (refine ⟨fun h => ?_, fun h => ?_⟩ <;> try (exfalso; first | omega | exact absurd h (by decide) | exact h rfl)) | (refine ⟨(_, _), ⟨?_, by (try dsimp only); omega⟩, [], ⟨⟨rfl, rfl⟩, ⟨⟨rfl, rfl⟩, ⟨⟨rfl, rfl⟩, ⟨⟨rfl, rfl⟩, ⟨⟨rfl, rfl⟩, ⟨⟨rfl, rfl⟩, ⟨⟨rfl, rfl⟩, ⟨⟨rfl, rfl⟩, ⟨⟨rfl, rfl⟩, trivial⟩⟩⟩⟩⟩⟩⟩⟩⟩, trivial, rfl, rfl, rfl⟩; (try dsimp only); exact ⟨⟨⟨hr', hd⟩, by omega⟩, by omega, by omega⟩) | (refine ⟨inR_u64 (by omega) (by omega), ?_⟩) | fail)
        · have hp := D2.prod (q := q) (by omega) (by omega)
          have he : q = Q0 := Int.le_antisymm (D2.up hr (by omega)) hQq
          repeat' ((conv => whnf); first | (refine ⟨fun h => ?_, fun h => ?_⟩ <;> try (exfalso; first | omega | exact absurd h (by decide) | exact h rfl)) | (refine ⟨inR_u64 (by omega) (by omega), ?_⟩) | (rw [he]) | fail)
          repeat' ((conv => whnf); first | (rw [hw2]) | (refine ⟨by omega, ?_⟩; rw [shr_val R rfl s1]) | (refine ⟨inR_u64 (by omega) (by omega), ?_⟩) | fail | fail)
          refine ⟨[], rfl, trivial, ?_⟩
          show leR _ (.tup [U ((hi * 18446744073709551616 + lo) / y), U ((hi * 18446744073709551616 + lo) % y)])
          rw [← hN1, ← hN2]
          exact ⟨rfl, rfl, trivial⟩
      · have hp := D1.prod (q := q) (by omega) (by omega)
        repeat' ((conv => whnf); first | (refine ⟨fun h => ?_, fun h => ?_⟩ <;> try (exfalso; first | omega | exact absurd h (by decide) | exact h rfl)) | (refine ⟨inR_u64 (by omega) (by omega), ?_⟩) | (rw [he]) | fail)
        repeat' ((conv => whnf); first | (rw [hw1]) | (refine ⟨⟨by omega, by rw [t2]; exact inR_u64 (by omega) (by omega)⟩, ?_⟩; rw [t2]) | (refine ⟨inR_u64 (by omega) (by omega), ?_⟩) | fail | fail)
        refine ⟨Int × Int, fun xq => ⟨[(2, U Y), (8, U s), (9, U y1), (10, U y0), (14, U d0), (15, U Q1), (17, U v), (18, U xq.1), (16, U xq.2)], [], 0⟩, fun xq => ((xq.1 * y1 + xq.2 = v ∧ Q0 ≤ xq.1) ∧ xq.1 ≤ 4294967297) ∧ 0 ≤ xq.2 ∧ xq.2 < 4294967296, fun xq => xq.1.toNat, ⟨(_, _), ?_, [], ⟨⟨rfl, rfl⟩, ⟨⟨rfl, rfl⟩, ⟨⟨rfl, rfl⟩, ⟨⟨rfl, rfl⟩, ⟨⟨rfl, rfl⟩, ⟨⟨rfl, rfl⟩, ⟨⟨rfl, rfl⟩, ⟨⟨rfl, rfl⟩, ⟨⟨rfl, rfl⟩, trivial⟩⟩⟩⟩⟩⟩⟩⟩⟩, trivial, rfl, rfl, rfl⟩, ?_⟩
        · (try dsimp only); exact ⟨⟨⟨D2s.2.1.1, D2s.1.1⟩, D2s.1.2⟩, D2s.2.1.2⟩
        rintro ⟨q, r⟩ hk
        obtain ⟨⟨⟨hr, hQq⟩, hq1⟩, r0, r1⟩ : ((q * y1 + r = v ∧ Q0 ≤ q) ∧ q ≤ 4294967297) ∧ 0 ≤ r ∧ r < 4294967296 := hk
        (try dsimp only)
        have hQ := D2.Qa
        have hless : (q - 1) * y1 = q * y1 - y1 := Dg.less
        by_cases hc : 4294967296 ≤ q ∨ 4294967296 * r + d0 < q * y0
        · have hd := D2.down hr hc
          have hr' : (q - 1) * y1 + (r + y1) = v := by omega
          by_cases hbk : 4294967296 ≤ r + y1
          · have he : q - 1 = Q0 := Int.le_antisymm (D2.big hr' hbk (by omega)) hd
            by_cases hqb : 4294967296 ≤ q
            · repeat' ((conv => whnf); first | (refine ⟨fun h => ?_, fun h => ?_⟩ <;> try (exfalso; first | omega | exact absurd h (by decide) | exact h rfl)) | (refine ⟨inR_u64 (by omega) (by omega), ?_⟩) | (rw [he]) | fail)
              repeat' ((conv => whnf); first | (rw [hw2]) | (refine ⟨by omega, ?_⟩; rw [shr_val R rfl s1]) | (refine ⟨inR_u64 (by omega) (by omega), ?_⟩) | fail | fail)
              refine ⟨[], rfl, trivial, ?_⟩
              show leR _ (.tup [U ((hi * 18446744073709551616 + lo) / y), U ((hi * 18446744073709551616 + lo) % y)])
              rw [← hN1, ← hN2]
              exact ⟨rfl, rfl, trivial⟩
            · have hp := D2.prod (q := q) (by omega) (by omega)
              repeat' ((conv => whnf); first | (refine ⟨fun h => ?_, fun h => ?_⟩ <;> try (exfalso; first | omega | exact absurd h (by decide) | exact h rfl)) | (refine ⟨inR_u64 (by omega) (by omega), ?_⟩) | (rw [he]) | fail)
              repeat' ((conv => whnf); first | (rw [hw2]) | (refine ⟨by omega, ?_⟩; rw [shr_val R rfl s1]) | (refine ⟨inR_u64 (by omega) (by omega), ?_⟩) | fail | fail)
              refine ⟨[], rfl, trivial, ?_⟩
              show leR _ (.tup [U ((hi * 18446744073709551616 + lo) / y), U ((hi * 18446744073709551616 + lo) % y)])
              rw [← hN1, ← hN2]
              exact ⟨rfl, rfl, trivial⟩
          · by_cases hqb : 4294967296 ≤ q
            · repeat' ((conv => whnf); first | (refine ⟨fun h => ?_, fun h => ?_⟩ <;> try (exfalso; first | omega | exact absurd h (by decide) | exact h rfl)) | (refine ⟨(_, _), ⟨?_, by (try dsimp only); omega⟩, [], ⟨⟨rfl, rfl⟩, ⟨⟨rfl, rfl⟩, ⟨⟨rfl, rfl⟩, ⟨⟨rfl, rfl⟩, ⟨⟨rfl, rfl⟩, ⟨⟨rfl, rfl⟩, ⟨⟨rfl, rfl⟩, ⟨⟨rfl, rfl⟩, ⟨⟨rfl, rfl⟩, trivial⟩⟩⟩⟩⟩⟩⟩⟩⟩, trivial, rfl, rfl, rfl⟩; (try dsimp only); exact ⟨⟨⟨hr', hd⟩, by omega⟩, by omega, by omega⟩) | (refine ⟨inR_u64 (by omega) (by omega), ?_⟩) | fail)
            · have hp := D2.prod (q := q) (by omega) (by omega)
              repeat' ((conv => whnf); first | (refine ⟨fun h => ?_, fun h => ?_⟩ <;> try (exfalso; first | omega | exact absurd h (by decide) | exact h rfl)) | (refine ⟨(_, _), ⟨?_, by (try dsimp only); omega⟩, [], ⟨⟨rfl, rfl⟩, ⟨⟨rfl, rfl⟩, ⟨⟨rfl, rfl⟩, ⟨⟨rfl, rfl⟩, ⟨⟨rfl, rfl⟩, ⟨⟨rfl, rfl⟩, ⟨⟨rfl, rfl⟩, ⟨⟨rfl, rfl⟩, ⟨⟨rfl, rfl⟩, trivial⟩⟩⟩⟩⟩⟩⟩⟩⟩, trivial, rfl, rfl, rfl⟩; (try dsimp only); exact ⟨⟨⟨hr', hd⟩, by omega⟩, by omega, by omega⟩) | (refine ⟨inR_u64 (by omega) (by omega), ?_⟩) | fail)
        · have hp := D2.prod (q := q) (by omega) (by omega)
          have he : q = Q0 := Int.le_antisymm (D2.up hr (by omega)) hQq
          repeat' ((conv => whnf); first | (refine ⟨fun h => ?_, fun h => ?_⟩ <;> try (exfalso; first | omega | exact absurd h (by decide) | exact h rfl)) | (refine ⟨inR_u64 (by omega) (by omega), ?_⟩) | (rw [he]) | fail)
          repeat' ((conv => whnf); first | (rw [hw2]) | (refine ⟨by omega, ?_⟩; rw [shr_val R rfl s1]) | (refine ⟨inR_u64 (by omega) (by omega), ?_⟩) | fail | fail)
          refine ⟨[], rfl, trivial, ?_⟩
          show leR _ (.tup [U ((hi * 18446744073709551616 + lo) / y), U ((hi * 18446744073709551616 + lo) % y)])
          rw [← hN1, ← hN2]
          exact ⟨rfl, rfl, trivial⟩
    · by_cases hqb : 4294967296 ≤ q
      · repeat' ((conv => whnf); first | (refine ⟨fun h => ?_, fun h => ?_⟩ <;> try (exfalso; first | omega | exact absurd h (by decide) | exact h rfl)) | (refine ⟨(_, _), ⟨?_, by (try dsimp only); omega⟩, [], ⟨⟨rfl, rfl⟩, ⟨⟨rfl, rfl⟩, ⟨⟨rfl, rfl⟩, ⟨⟨rfl, rfl⟩, ⟨⟨rfl, rfl⟩, ⟨⟨rfl, rfl⟩, ⟨⟨rfl, rfl⟩, ⟨⟨rfl, rfl⟩, ⟨⟨rfl, rfl⟩, trivial⟩⟩⟩⟩⟩⟩⟩⟩⟩, trivial, rfl, rfl, rfl⟩; (try dsimp only); exact ⟨⟨⟨hr', hd⟩, by omega⟩, by omega, by omega⟩) | (refine ⟨inR_u64 (by omega) (by omega), ?_⟩) | fail)
      · have hp := D1.prod (q := q) (by omega) (by omega)
        repeat' ((conv => whnf); first | (refine ⟨fun h => ?_, fun h => ?_⟩ <;> try (exfalso; first | omega | exact absurd h (by decide) | exact h rfl)) | (refine ⟨(_, _), ⟨?_, by (try dsimp only); omega⟩, [], ⟨⟨rfl, rfl⟩, ⟨⟨rfl, rfl⟩, ⟨⟨rfl, rfl⟩, ⟨⟨rfl, rfl⟩, ⟨⟨rfl, rfl⟩, ⟨⟨rfl, rfl⟩, ⟨⟨rfl, rfl⟩, ⟨⟨rfl, rfl⟩, ⟨⟨rfl, rfl⟩, trivial⟩⟩⟩⟩⟩⟩⟩⟩⟩, trivial, rfl, rfl, rfl⟩; (try dsimp only); exact ⟨⟨⟨hr', hd⟩, by omega⟩, by omega, by omega⟩) | (refine ⟨inR_u64 (by omega) (by omega), ?_⟩) | fail)
  · have hp := D1.prod (q := q) (by omega) (by omega)
    have he : q = Q1 := Int.le_antisymm (D1.up hr (by omega)) hQq
    repeat' ((conv => whnf); first | (refine ⟨fun h => ?_, fun h => ?_⟩ <;> try (exfalso; first | omega | exact absurd h (by decide) | exact h rfl)) | (refine ⟨inR_u64 (by omega) (by omega), ?_⟩) | (rw [he]) | fail)
    repeat' ((conv => whnf); first | (rw [hw1]) | (refine ⟨⟨by omega, by rw [t2]; exact inR_u64 (by omega) (by omega)⟩, ?_⟩; rw [t2]) | (refine ⟨inR_u64 (by omega) (by omega), ?_⟩) | fail | fail)
    refine ⟨Int × Int, fun xq => ⟨[(2, U Y), (8, U s), (9, U y1), (10, U y0), (14, U d0), (15, U Q1), (17, U v), (18, U xq.1), (16, U xq.2)], [], 0⟩, fun xq => ((xq.1 * y1 + xq.2 = v ∧ Q0 ≤ xq.1) ∧ xq.1 ≤ 4294967297) ∧ 0 ≤ xq.2 ∧ xq.2 < 4294967296, fun xq => xq.1.toNat, ⟨(_, _), ?_, [], ⟨⟨rfl, rfl⟩, ⟨⟨rfl, rfl⟩, ⟨⟨rfl, rfl⟩, ⟨⟨rfl, rfl⟩, ⟨⟨rfl, rfl⟩, ⟨⟨rfl, rfl⟩, ⟨⟨rfl, rfl⟩, ⟨⟨rfl, rfl⟩, ⟨⟨rfl, rfl⟩, trivial⟩⟩⟩⟩⟩⟩⟩⟩⟩, trivial, rfl, rfl, rfl⟩, ?_⟩
    · (try dsimp only); exact ⟨⟨⟨D2s.2.1.1, D2s.1.1⟩, D2s.1.2⟩, D2s.2.1.2⟩
    rintro ⟨q, r⟩ hk
    obtain ⟨⟨⟨hr, hQq⟩, hq1⟩, r0, r1⟩ : ((q * y1 + r = v ∧ Q0 ≤ q) ∧ q ≤ 4294967297) ∧ 0 ≤ r ∧ r < 4294967296 := hk
    (try dsimp only)
    have hQ := D2.Qa
    have hless : (q - 1) * y1 = q * y1 - y1 := Dg.less
    by_cases hc : 4294967296 ≤ q ∨ 4294967296 * r + d0 < q * y0
    · have hd := D2.down hr hc
      have hr' : (q - 1) * y1 + (r + y1) = v := by omega
      by_cases hbk : 4294967296 ≤ r + y1
      · have he : q - 1 = Q0 := Int.le_antisymm (D2.big hr' hbk (by omega)) hd
        by_cases hqb : 4294967296 ≤ q
        · repeat' ((conv => whnf); first | (refine ⟨fun h => ?_, fun h => ?_⟩ <;> try (exfalso; first | omega | exact absurd h (by decide) | exact h rfl)) | (refine ⟨inR_u64 (by omega) (by omega), ?_⟩) | (rw [he]) | fail)
          repeat' ((conv => whnf); first | (rw [hw2]) | (refine ⟨by omega, ?_⟩; rw [shr_val R rfl s1]) | (refine ⟨inR_u64 (by omega) (by omega), ?_⟩) | fail | fail)
          refine ⟨[], rfl, trivial, ?_⟩
          show leR _ (.tup [U ((hi * 18446744073709551616 + lo) / y), U ((hi * 18446744073709551616 + lo) % y)])
          rw [← hN1, ← hN2]
          exact ⟨rfl, rfl, trivial⟩
        · have hp := D2.prod (q := q) (by omega) (by omega)
          repeat' ((conv => whnf); first | (refine ⟨fun h => ?_, fun h => ?_⟩ <;> try (exfalso; first | omega | exact absurd h (by decide) | exact h rfl)) | (refine ⟨inR_u64 (by omega) (by omega), ?_⟩) | (rw [he]) | fail)
          repeat' ((conv => whnf); first | (rw [hw2]) | (refine ⟨by omega, ?_⟩; rw [shr_val R rfl s1]) | (refine ⟨inR_u64 (by omega) (by omega), ?_⟩) | fail | fail)
          refine ⟨[], rfl, trivial, ?_⟩
          show leR _ (.tup [U ((hi * 18446744073709551616 + lo) / y), U ((hi * 18446744073709551616 + lo) % y)])
          rw [← hN1, ← hN2]
          exact ⟨rfl, rfl, trivial⟩
      · by_cases hqb : 4294967296 ≤ q
        · repeat' ((conv => whnf); first | (refine ⟨fun h => ?_, fun h => ?_⟩ <;> try (exfalso; first | omega | exact absurd h (by decide) | exact h rfl)) | (refine ⟨(_, _), ⟨?_, by (try dsimp only); omega⟩, [], ⟨⟨rfl, rfl⟩, ⟨⟨rfl, rfl⟩, ⟨⟨rfl, rfl⟩, ⟨⟨rfl, rfl⟩, ⟨⟨rfl, rfl⟩, ⟨⟨rfl, rfl⟩, ⟨⟨rfl, rfl⟩, ⟨⟨rfl, rfl⟩, ⟨⟨rfl, rfl⟩, trivial⟩⟩⟩⟩⟩⟩⟩⟩⟩, trivial, rfl, rfl, rfl⟩; (try dsimp only); exact ⟨⟨⟨hr', hd⟩, by omega⟩, by omega, by omega⟩) | (refine ⟨inR_u64 (by omega) (by omega), ?_⟩) | fail)
        · have hp := D2.prod (q := q) (by omega) (by omega)
          repeat' ((conv => whnf); first | (refine ⟨fun h => ?_, fun h => ?_⟩ <;> try (exfalso; first | omega | exact absurd h (by decide) | exact h rfl)) | (refine ⟨(_, _), ⟨?_, by (try dsimp only); omega⟩, [], ⟨⟨rfl, rfl⟩, ⟨⟨rfl, rfl⟩, ⟨⟨rfl, rfl⟩, ⟨⟨rfl, rfl⟩, ⟨⟨rfl, rfl⟩, ⟨⟨rfl, rfl⟩, ⟨⟨rfl, rfl⟩, ⟨⟨rfl, rfl⟩, ⟨⟨rfl, rfl⟩, trivial⟩⟩⟩⟩⟩⟩⟩⟩⟩, trivial, rfl, rfl, rfl⟩; (try dsimp only); exact ⟨⟨⟨hr', hd⟩, by omega⟩, by omega, by omega⟩) | (refine ⟨inR_u64 (by omega) (by omega), ?_⟩) | fail)
    · have hp := D2.prod (q := q) (by omega) (by omega)
      have he : q = Q0 := Int.le_antisymm (D2.up hr (by omega)) hQq
      repeat' ((conv => whnf); first | (refine ⟨fun h => ?_, fun h => ?_⟩ <;> try (exfalso; first | omega | exact absurd h (by decide) | exact h rfl)) | (refine ⟨inR_u64 (by omega) (by omega), ?_⟩) | (rw [he]) | fail)
      repeat' ((conv => whnf); first | (rw [hw2]) | (refine ⟨by omega, ?_⟩; rw [shr_val R rfl s1]) | (refine ⟨inR_u64 (by omega) (by omega), ?_⟩) | fail | fail)
      refine ⟨[], rfl, trivial, ?_⟩
      show leR _ (.tup [U ((hi * 18446744073709551616 + lo) / y), U ((hi * 18446744073709551616 + lo) % y)])
      rw [← hN1, ← hN2]
      exact ⟨rfl, rfl, trivial⟩
theorem div_h : Holds Try.prog 63 divS := holds_of mix Try.func63 divLow (fun _ => rfl) divV

end Go.Proofs.Ytbglmocgijlomaa

/- The parts of an amount: plain. No program in sight. -/
namespace Go.Proofs.Ytbglmocgijlomaa
open Go.RowKit

theorem sum_bnd : ∀ {l : List Int}, (∀ x ∈ l, -2199023255552 ≤ x ∧ x ≤ 2199023255552) → -2199023255552 * (l.length : Int) ≤ l.sum ∧ l.sum ≤ 2199023255552 * (l.length : Int)
  | [], _ => by simp
  | x :: r, h => by
    have h1 := sum_bnd (l := r) fun y hy => h y (by simp [hy])
    have h2 := h x (by simp)
    simp only [List.sum_cons, List.length_cons]
    omega
theorem sum_take {l : List Int} {k : Nat} {x : Int} (h : l[k]? = some x) : (l.take (k + 1)).sum = (l.take k).sum + x := by
  rw [take_snoc l k x h, List.sum_append]; simp
/-- A row of n that is filled up to k. -/
def upTo (l : List Int) (n k : Nat) : List Int := l.take k ++ List.replicate (n - k) 0
theorem upTo_len {l : List Int} {n k : Nat} (h : k ≤ n) (hl : l.length = n) : (upTo l n k).length = n := by
  rw [upTo, List.length_append, List.length_take, List.length_replicate]; omega
theorem upTo_set {l : List Int} {n k : Nat} {x : Int} (h : l[k]? = some x) (hl : l.length = n) : (upTo l n k).set k x = upTo l n (k + 1) := by
  have hk := (List.getElem?_eq_some_iff.1 h).1
  obtain ⟨m, hm⟩ : ∃ m, n - k = m + 1 := ⟨n - k - 1, by omega⟩
  have h1 : (l.take k).length = k := by rw [List.length_take]; omega
  rw [upTo, upTo, take_snoc l k x h, hm, show n - (k + 1) = m by omega, List.replicate_succ, List.set_append_right _ _ (by omega), h1, Nat.sub_self, List.set_cons_zero, List.append_assoc]
  rfl
theorem upTo_get {l : List Int} {n k : Nat} {x : Int} (h : l[k]? = some x) (hl : l.length = n) : (upTo l n k)[k]? = some 0 := by
  have hk := (List.getElem?_eq_some_iff.1 h).1
  obtain ⟨m, hm⟩ : ∃ m, n - k = m + 1 := ⟨n - k - 1, by omega⟩
  have h1 : (l.take k).length = k := by rw [List.length_take]; omega
  rw [upTo, List.getElem?_append_right (by omega), h1, Nat.sub_self, hm, List.replicate_succ]; rfl
theorem upTo_end {l : List Int} {n : Nat} (hl : l.length = n) : upTo l n n = l := by subst hl; simp [upTo]
theorem upTo_start (l : List Int) (n : Nat) : upTo l n 0 = List.replicate n 0 := by simp [upTo]

def qL (a : Int) (ws : List Int) : List Int := ws.map fun w => a * w / ws.sum
def rL (a : Int) (ws : List Int) : List Int := ws.map fun w => a * w % ws.sum
def leftN (a : Int) (ws : List Int) : Nat := (a - (qL a ws).sum).toNat
def idxL (n : Nat) : List Int := (List.range n).map fun i : Nat => (i : Int)
def befB (f : Int → Int) (x y : Int) : Bool := decide (bef f x y ∨ x = y)
/-- The parts' numbers, those with a greater rest first. -/
def ordL (rs : List Int) : List Int := (idxL rs.length).mergeSort (befB (keyR rs))
theorem idxL_len (n : Nat) : (idxL n).length = n := by simp [idxL]
theorem idxL_get {n i : Nat} (h : i < n) : (idxL n)[i]? = some (i : Int) := by
  rw [idxL, List.getElem?_map, List.getElem?_range h]; rfl
theorem idxL_mem {n : Nat} {x : Int} : x ∈ idxL n ↔ ∃ i : Nat, i < n ∧ x = i := by
  simp only [idxL, List.mem_map, List.mem_range]
  exact ⟨fun ⟨i, h, e⟩ => ⟨i, h, e.symm⟩, fun ⟨i, h, e⟩ => ⟨i, h, e.symm⟩⟩
theorem idxL_lt (n : Nat) : (idxL n).Pairwise (· < ·) := by
  rw [idxL, List.pairwise_map]
  exact List.pairwise_lt_range.imp fun h => Int.ofNat_lt.2 h
theorem idxL_stb (f : Int → Int) (n : Nat) : (idxL n).Pairwise (stb f) := (idxL_lt n).imp fun {a b} (h : a < b) => (show stb f a b from fun _ => h)
theorem idxL_nodup (n : Nat) : (idxL n).Nodup := (idxL_lt n).imp fun h => by omega
theorem ordL_sorted (rs : List Int) : SortedOf (keyR rs) (idxL rs.length) (ordL rs) := by
  have hp : (ordL rs).Perm (idxL rs.length) := List.mergeSort_perm _ _
  refine ⟨hp, ?_⟩
  have h1 : (ordL rs).Pairwise fun x y => befB (keyR rs) x y = true := List.pairwise_mergeSort
    (fun a b c h1 h2 => by
      simp only [befB, decide_eq_true_eq] at *
      rcases h1 with h1 | rfl
      · rcases h2 with h2 | rfl
        · exact .inl (bef_trans h1 h2)
        · exact .inl h1
      · exact h2)
    (fun a b => by
      simp only [befB, Bool.or_eq_true, decide_eq_true_eq]
      by_cases e : a = b
      · exact .inl (.inr e)
      · rcases bef_total (f := keyR rs) e with h | h
        · exact .inl (.inl h)
        · exact .inr (.inl h)) _
  have h2 : (ordL rs).Nodup := hp.nodup_iff.2 (idxL_nodup _)
  refine (h1.and h2).imp fun {a b} h => ?_
  have := h.1
  simp only [befB, decide_eq_true_eq] at this
  rcases this with h' | e
  · exact h'
  · exact absurd e h.2
theorem ordL_len (rs : List Int) : (ordL rs).length = rs.length := by rw [(ordL_sorted rs).1.length_eq, idxL_len]
theorem ordL_mem {rs : List Int} {x : Int} (h : x ∈ ordL rs) : ∃ i : Nat, i < rs.length ∧ x = i := idxL_mem.1 ((ordL_sorted rs).1.mem_iff.1 h)
theorem ordL_nodup (rs : List Int) : (ordL rs).Nodup := (ordL_sorted rs).1.nodup_iff.2 (idxL_nodup _)

/-! ### one more for some -/
def incr (l : List Int) (i : Int) : List Int := l.set i.toNat (l.getD i.toNat 0 + 1)
def incs (l is : List Int) : List Int := is.foldl incr l
def marks (l is : List Int) : List Int := is.foldl (fun r i => r.set i.toNat (-1)) l
theorem incr_len (l : List Int) (i : Int) : (incr l i).length = l.length := List.length_set
theorem incs_len : ∀ (is l : List Int), (incs l is).length = l.length
  | [], _ => rfl
  | i :: r, l => (incs_len r (incr l i)).trans (incr_len l i)
theorem marks_len : ∀ (is l : List Int), (marks l is).length = l.length
  | [], _ => rfl
  | i :: r, l => (marks_len r (l.set i.toNat (-1))).trans List.length_set
theorem incs_snoc (l is : List Int) (i : Int) : incs l (is ++ [i]) = incr (incs l is) i := by simp [incs]
theorem marks_snoc (l is : List Int) (i : Int) : marks l (is ++ [i]) = (marks l is).set i.toNat (-1) := by simp [marks]
theorem set_sum : ∀ (l : List Int) (k : Nat) (x : Int), l[k]? = some x → (l.set k (x + 1)).sum = l.sum + 1
  | [], k, x, h => by simp at h
  | y :: r, 0, x, h => by simp at h; subst h; simp only [List.set_cons_zero, List.sum_cons]; omega
  | y :: r, k + 1, x, h => by
    have := set_sum r k x (by simpa using h)
    simp only [List.set_cons_succ, List.sum_cons]; omega
theorem incs_sum : ∀ (is l : List Int), (∀ i ∈ is, ∃ k : Nat, k < l.length ∧ i = k) → (incs l is).sum = l.sum + is.length
  | [], l, _ => by simp [incs]
  | i :: r, l, h => by
    obtain ⟨k, hk, rfl⟩ := h i (by simp)
    obtain ⟨x, hx⟩ := getElem_some hk
    have h1 : incr l k = l.set k (x + 1) := by rw [incr, Int.toNat_natCast, List.getD, hx]; rfl
    show (incs (incr l k) r).sum = _
    rw [incs_sum r _ fun j hj => by rw [incr_len]; exact h j (by simp [hj]), h1, set_sum l k x hx, List.length_cons]
    omega
theorem incs_get : ∀ (is l : List Int) (j : Nat) (x : Int), is.Nodup → (∀ i ∈ is, 0 ≤ i) → l[j]? = some x → (incs l is)[j]? = some (x + if (j : Int) ∈ is then 1 else 0)
  | [], l, j, x, _, _, h => by simp [incs, h]
  | i :: r, l, j, x, hn, h0, h => by
    obtain ⟨h1, h2⟩ := List.nodup_cons.1 hn
    have hj := (List.getElem?_eq_some_iff.1 h).1
    have hi := h0 i (by simp)
    show (incs (incr l i) r)[j]? = _
    by_cases e : i = j
    · subst e
      have hs : (incr l (j : Int))[j]? = some (x + 1) := by
        rw [incr, Int.toNat_natCast, List.getElem?_set_self hj, List.getD, h]; rfl
      rw [incs_get r _ j _ h2 (fun i hi => h0 i (by simp [hi])) hs, if_neg h1, if_pos (by simp), Int.add_zero]
    · have hs : (incr l i)[j]? = some x := by rw [incr, List.getElem?_set_ne (by omega)]; exact h
      rw [incs_get r _ j _ h2 (fun i hi => h0 i (by simp [hi])) hs]
      congr 2
      by_cases hm : (j : Int) ∈ r
      · rw [if_pos hm, if_pos (by simp [hm])]
      · rw [if_neg hm, if_neg (by simp [hm]; omega)]
theorem marks_get : ∀ (is l : List Int) (j : Nat) (x : Int), (∀ i ∈ is, 0 ≤ i) → l[j]? = some x → (marks l is)[j]? = some (if (j : Int) ∈ is then -1 else x)
  | [], l, j, x, _, h => by simp [marks, h]
  | i :: r, l, j, x, h0, h => by
    have hj := (List.getElem?_eq_some_iff.1 h).1
    have hi := h0 i (by simp)
    show (marks (l.set i.toNat (-1)) r)[j]? = _
    by_cases e : i = j
    · subst e
      rw [marks_get r _ j (-1) (fun i hi => h0 i (by simp [hi])) (by rw [Int.toNat_natCast, List.getElem?_set_self hj]), if_pos (show (j : Int) ∈ (j : Int) :: r by simp)]
      split <;> rfl
    · rw [marks_get r _ j x (fun i hi => h0 i (by simp [hi])) (by rw [List.getElem?_set_ne (by omega)]; exact h)]
      by_cases hm : (j : Int) ∈ r
      · rw [if_pos hm, if_pos (by simp [hm])]
      · rw [if_neg hm, if_neg (by simp [hm]; omega)]

/-- The parts. -/
def partsL (a : Int) (ws : List Int) : List Int := incs (qL a ws) ((ordL (rL a ws)).take (leftN a ws))
theorem qL_len (a : Int) (ws : List Int) : (qL a ws).length = ws.length := by simp [qL]
theorem rL_len (a : Int) (ws : List Int) : (rL a ws).length = ws.length := by simp [rL]
theorem partsL_len (a : Int) (ws : List Int) : (partsL a ws).length = ws.length := by rw [partsL, incs_len, qL_len]
theorem qr_sum (a s : Int) : ∀ l : List Int, (l.map fun w => a * w / s).sum * s + (l.map fun w => a * w % s).sum = a * l.sum
  | [] => by simp
  | w :: r => by
    have h := qr_sum a s r
    have hm := Int.mul_ediv_add_emod (a * w) s
    rw [Int.mul_comm] at hm
    simp only [List.map_cons, List.sum_cons, Int.add_mul, Int.mul_add]
    omega
theorem sum_nn : ∀ {l : List Int} {s : Int}, (∀ x ∈ l, 0 ≤ x ∧ x < s) → 0 ≤ l.sum ∧ l.sum ≤ (s - 1) * l.length
  | [], s, _ => by simp
  | x :: r, s, h => by
    have h1 := sum_nn (l := r) fun y hy => h y (by simp [hy])
    have h2 := h x (by simp)
    simp only [List.sum_cons, List.length_cons, Int.natCast_add, Int.mul_add]
    omega
theorem rL_sum (a : Int) (ws : List Int) : (rL a ws).sum = (a - (qL a ws).sum) * ws.sum := by
  have h : (qL a ws).sum * ws.sum + (rL a ws).sum = a * ws.sum := qr_sum a ws.sum ws
  rw [Int.sub_mul]; omega
/-- What is known where Split answers with parts. -/
structure Good (a : Int) (ws : List Int) : Prop where
  len : ws.length ≤ 64
  a0 : 0 ≤ a
  a1 : a ≤ 1099511627776
  wOk : ∀ w ∈ ws, 0 ≤ w ∧ w ≤ 1000000000
  s0 : 0 < ws.sum
  s1 : ws.sum ≤ 64000000000
theorem le_sum : ∀ {l : List Int}, (∀ w ∈ l, 0 ≤ w) → ∀ w ∈ l, w ≤ l.sum
  | [], _, w, hw => by simp at hw
  | x :: r, h, w, hw => by
    have h1 : 0 ≤ r.sum := by
      clear hw
      have : ∀ l : List Int, (∀ w ∈ l, 0 ≤ w) → 0 ≤ l.sum := by
        intro l
        induction l with
        | nil => intro _; simp
        | cons y t ih => intro h; have := ih fun z hz => h z (by simp [hz]); have := h y (by simp); simp only [List.sum_cons]; omega
      exact this r fun z hz => h z (by simp [hz])
    have h2 := h x (by simp)
    simp only [List.sum_cons]
    rcases List.mem_cons.1 hw with rfl | hw
    · omega
    · have := le_sum (l := r) (fun z hz => h z (by simp [hz])) w hw; omega
section
variable {a : Int} {ws : List Int} (g : Good a ws)
include g
theorem Good.q {w : Int} (hw : w ∈ ws) : 0 ≤ a * w / ws.sum ∧ a * w / ws.sum ≤ a := by
  obtain ⟨h1, h2⟩ := g.wOk w hw
  have h3 := le_sum (fun w hw => (g.wOk w hw).1) w hw
  have := g.s0
  refine ⟨Int.ediv_nonneg (Int.mul_nonneg g.a0 h1) (by omega), ?_⟩
  exact Int.ediv_le_of_le_mul g.s0 (Int.mul_le_mul_of_nonneg_left h3 g.a0)
theorem Good.r (w : Int) : 0 ≤ a * w % ws.sum ∧ a * w % ws.sum < ws.sum := by
  have := g.s0
  exact ⟨Int.emod_nonneg _ (by omega), Int.emod_lt_of_pos _ g.s0⟩
theorem Good.left : (leftN a ws : Int) = a - (qL a ws).sum ∧ leftN a ws < ws.length := by
  have h := rL_sum a ws
  have hs := g.s0
  obtain ⟨h1, h2⟩ := sum_nn (l := rL a ws) (s := ws.sum) (by
    intro x hx
    obtain ⟨w, _, rfl⟩ := List.mem_map.1 hx
    exact g.r w)
  rw [rL_len] at h2
  have hn : 0 < ws.length := by
    cases hw : ws with
    | nil => rw [hw] at hs; simp at hs
    | cons _ _ => simp
  have h3 : 0 ≤ a - (qL a ws).sum := by
    rw [h] at h1
    exact Int.le_of_mul_le_mul_right (a := ws.sum) (by rw [Int.zero_mul]; exact h1) hs
  have h4 : (a - (qL a ws).sum) * ws.sum < ws.length * ws.sum := by
    rw [← h]
    refine Int.lt_of_le_of_lt h2 ?_
    rw [Int.sub_mul, Int.one_mul, Int.mul_comm ws.sum]
    omega
  have h5 := Int.lt_of_mul_lt_mul_right h4 (Int.le_of_lt hs)
  unfold leftN
  omega
theorem Good.sum : (partsL a ws).sum = a := by
  obtain ⟨h1, h2⟩ := g.left
  rw [partsL, incs_sum _ _ fun i hi => by rw [qL_len, ← rL_len a ws]; exact ordL_mem (List.mem_of_mem_take hi), List.length_take, ordL_len, rL_len]
  omega
end
/-- The number of the greatest rest that is left, the first one if there are more. -/
structure IsBest (r : List Int) (b i : Nat) : Prop where
  lt : b < r.length
  max : ∀ (j : Nat) (x y : Int), j < i → r[j]? = some x → r[b]? = some y → x ≤ y ∧ (j < b → x < y)
theorem best_next {rs : List Int} {m b : Nat} {n : Nat} (hn : rs.length = n) (h0 : ∀ x ∈ rs, 0 ≤ x) (hm : m < n) (hb : IsBest (marks rs ((ordL rs).take m)) b n) : (ordL rs)[m]? = some (b : Int) := by
  subst hn
  have hol := ordL_len rs
  obtain ⟨c, hc⟩ := getElem_some (xs := ordL rs) (k := m) (by omega)
  obtain ⟨c, hcl, rfl⟩ := ordL_mem (List.mem_of_getElem? hc)
  have hnn : ∀ i ∈ (ordL rs).take m, 0 ≤ i := fun i hi => by obtain ⟨k, _, rfl⟩ := ordL_mem (List.mem_of_mem_take hi); omega
  have hbl := hb.lt
  rw [marks_len] at hbl
  obtain ⟨x, hx⟩ := getElem_some hcl
  obtain ⟨y, hy⟩ := getElem_some hbl
  have hcm : (c : Int) ∉ (ordL rs).take m := by
    intro h
    obtain ⟨i, hi⟩ := List.getElem?_of_mem h
    rw [List.getElem?_take] at hi
    split at hi
    · obtain ⟨p1, e1⟩ := List.getElem?_eq_some_iff.1 hi
      obtain ⟨p2, e2⟩ := List.getElem?_eq_some_iff.1 hc
      have hne := List.pairwise_iff_getElem.1 (ordL_nodup rs) i m p1 p2 (by omega)
      exact hne (e1.trans e2.symm)
    · cases hi
  have m1 := marks_get ((ordL rs).take m) rs c x hnn hx
  rw [if_neg hcm] at m1
  have m2 := marks_get ((ordL rs).take m) rs b y hnn hy
  have x0 := h0 x (List.mem_of_getElem? hx)
  have h1 := hb.max c _ _ hcl m1 m2
  by_cases hbm : (b : Int) ∈ (ordL rs).take m
  · rw [if_pos hbm] at h1; omega
  rw [if_neg hbm] at h1
  by_cases e : c = b
  · rw [← e]; exact hc
  exfalso
  have hbo : (b : Int) ∈ ordL rs := (ordL_sorted rs).1.mem_iff.2 (idxL_mem.2 ⟨b, hbl, rfl⟩)
  obtain ⟨p, hp⟩ := List.getElem?_of_mem hbo
  have hpm : m < p := by
    rcases Nat.lt_trichotomy p m with h | h | h
    · exact absurd (List.mem_of_getElem? (i := p) (by rw [List.getElem?_take, if_pos h]; exact hp)) hbm
    · subst h; rw [hc] at hp; cases hp; omega
    · exact h
  obtain ⟨p1, e1⟩ := List.getElem?_eq_some_iff.1 hc
  obtain ⟨p2, e2⟩ := List.getElem?_eq_some_iff.1 hp
  have hbf := List.pairwise_iff_getElem.1 (ordL_sorted rs).2 m p p1 p2 hpm
  rw [e1, e2] at hbf
  have k1 : keyR rs c = x := by simp [keyR, List.getD, hx]
  have k2 : keyR rs b = y := by simp [keyR, List.getD, hy]
  unfold bef at hbf
  rw [k1, k2] at hbf
  omega
theorem best_start {r : List Int} (h : 0 < r.length) : IsBest r 0 1 := ⟨h, fun j x y hj hx hy => by
  obtain rfl : j = 0 := by omega
  rw [hx] at hy; cases hy; omega⟩
theorem best_up {r : List Int} {b i : Nat} {x y : Int} (h : IsBest r b i) (hi : r[i]? = some x) (hb : r[b]? = some y) (hxy : y < x) : IsBest r i (i + 1) := ⟨(List.getElem?_eq_some_iff.1 hi).1, fun j u v hj hu hv => by
  rw [hi] at hv; cases hv
  by_cases e : j = i
  · subst e; rw [hi] at hu; cases hu; omega
  · have := h.max j u y (by omega) hu hb; omega⟩
theorem best_stay {r : List Int} {b i : Nat} {x y : Int} (h : IsBest r b i) (hbi : b < i) (hi : r[i]? = some x) (hb : r[b]? = some y) (hxy : ¬ y < x) : IsBest r b (i + 1) := ⟨h.lt, fun j u v hj hu hv => by
  rw [hb] at hv; cases hv
  by_cases e : j = i
  · subst e; rw [hi] at hu; cases hu; omega
  · exact h.max j u y (by omega) hu hb⟩
/-- What Fair asks of one part. -/
def okP (a s w p : Int) : Prop := p = a * w / s ∨ (a * w % s ≠ 0 ∧ p = a * w / s + 1)
instance (a s w p : Int) : Decidable (okP a s w p) := by unfold okP; infer_instance
def fairP (a : Int) (ws ps : List Int) : Prop := ps.length = ws.length ∧ (∀ x ∈ ws.zip ps, okP a ws.sum x.1 x.2) ∧ ps.sum = a
instance (a : Int) (ws ps : List Int) : Decidable (fairP a ws ps) := by unfold fairP; infer_instance
theorem zip_get {ws ps : List Int} {k : Nat} {w p : Int} (hw : ws[k]? = some w) (hp : ps[k]? = some p) : (ws.zip ps)[k]? = some (w, p) := List.getElem?_zip_eq_some.2 ⟨hw, hp⟩
theorem zip_end {ws ps : List Int} {k : Nat} (hl : ps.length = ws.length) (h : ¬ k < ws.length) : (ws.zip ps).take k = ws.zip ps := List.take_of_length_le (by rw [List.length_zip]; omega)
theorem fair_bnd {a : Int} {ws ps : List Int} (g : Good a ws) (hl : ps.length = ws.length) (h : ∀ x ∈ ws.zip ps, okP a ws.sum x.1 x.2) : ∀ p ∈ ps, -2199023255552 ≤ p ∧ p ≤ 2199023255552 := by
  intro p hp
  obtain ⟨i, hi⟩ := List.getElem?_of_mem hp
  obtain ⟨w, hw⟩ := getElem_some (xs := ws) (k := i) (by have := (List.getElem?_eq_some_iff.1 hi).1; omega)
  have hok : okP a ws.sum w p := h _ (List.mem_of_getElem? (zip_get hw hi))
  have hq := g.q (List.mem_of_getElem? hw)
  have := g.a1
  unfold okP at hok
  omega
end Go.Proofs.Ytbglmocgijlomaa

/- Split: exact, sums and totals. -/
namespace Go.Proofs.Ytbglmocgijlomaa
open Go.RowKit

/-! skiarea/split.exact -/
def exactIr : IFn := ⟨32, [.tmp 6, .tmp 7],
  (.seq (.ops [
    ⟨(some 6), .mov, [.const (.int .i64 0)], none⟩,
    ⟨(some 7), .mov, [.const (.int .i64 0)], none⟩] false)
  (.seq (.ops [
    ⟨(some 13), .mov, [.tmp 0], none⟩,
    ⟨(some 14), .conv .u64, [.tmp 13], none⟩,
    ⟨(some 15), .mov, [.tmp 1], none⟩,
    ⟨(some 16), .conv .u64, [.tmp 15], none⟩,
    ⟨(some 17), .call 62, [.tmp 14, .tmp 16], none⟩,
    ⟨(some 12), .mov, [.tmp 17], none⟩,
    ⟨(some 18), .extract 0, [.tmp 12], none⟩,
    ⟨(some 19), .extract 1, [.tmp 12], none⟩,
    ⟨(some 8), .mov, [.tmp 18], none⟩,
    ⟨(some 9), .mov, [.tmp 19], none⟩] false)
  (.seq (.ops [
    ⟨(some 21), .mov, [.tmp 8], none⟩,
    ⟨(some 22), .mov, [.tmp 9], none⟩,
    ⟨(some 23), .mov, [.tmp 2], none⟩,
    ⟨(some 24), .conv .u64, [.tmp 23], none⟩,
    ⟨(some 25), .call 63, [.tmp 21, .tmp 22, .tmp 24], none⟩,
    ⟨(some 20), .mov, [.tmp 25], none⟩,
    ⟨(some 26), .extract 0, [.tmp 20], none⟩,
    ⟨(some 27), .extract 1, [.tmp 20], none⟩,
    ⟨(some 10), .mov, [.tmp 26], none⟩,
    ⟨(some 11), .mov, [.tmp 27], none⟩] false)
  (.seq (.ops [
    ⟨(some 28), .mov, [.tmp 10], none⟩,
    ⟨(some 29), .conv .i64, [.tmp 28], none⟩,
    ⟨(some 30), .mov, [.tmp 11], none⟩,
    ⟨(some 31), .conv .i64, [.tmp 30], none⟩,
    ⟨(some 6), .mov, [.tmp 29], none⟩,
    ⟨(some 7), .mov, [.tmp 31], none⟩] false)
  .ret))))⟩
theorem exactLow : lowF Try.prog {} Try.f38 = some exactIr := by kernel_rfl
def exactS : Spec := spec (Int × Int × Int) (fun p => [I p.1, I p.2.1, I p.2.2]) (fun p => (0 ≤ p.1 ∧ p.1 ≤ 1099511627776) ∧ (0 ≤ p.2.1 ∧ p.2.1 ≤ 1000000000) ∧ (1 ≤ p.2.2 ∧ p.2.2 ≤ 64000000000) ∧ p.2.1 ≤ p.2.2) (fun p => .tup [I (p.1 * p.2.1 / p.2.2), I (p.1 * p.2.1 % p.2.2)])
theorem exactV : fnV Try.prog exactIr exactS := by
  intro ⟨(a : Int), (w : Int), (s : Int)⟩ hx
  obtain ⟨⟨a0, a1⟩, ⟨w0, w1⟩, ⟨s0, s1⟩, hws⟩ : (0 ≤ a ∧ a ≤ 1099511627776) ∧ (0 ≤ w ∧ w ≤ 1000000000) ∧ (1 ≤ s ∧ s ≤ 64000000000) ∧ w ≤ s := hx
  have p0 : 0 ≤ a * w := Int.mul_nonneg a0 w0
  have p1 : a * w ≤ 1099511627776 * w := Int.mul_le_mul_of_nonneg_right a1 w0
  have p2 : a * w ≤ a * s := Int.mul_le_mul_of_nonneg_left hws a0
  have q0 : 0 ≤ a * w / s := Int.ediv_nonneg p0 (by omega)
  have q1 : a * w / s ≤ a := Int.ediv_le_of_le_mul (by omega) p2
  have r0 : 0 ≤ a * w % s := Int.emod_nonneg _ (by omega)
  have r1 : a * w % s < s := Int.emod_lt_of_pos _ (by omega)
  have hm : a * w / 18446744073709551616 * 18446744073709551616 + a * w % 18446744073709551616 = a * w := by omega
  show vc _ _ _ _ ⟨argEnv 0 [I a, I w, I s], [], 0⟩
  repeat' ((conv => whnf); first | (refine ⟨_, mul_h, (a, w), ⟨⟨a0, a1⟩, w0, w1⟩, leVs_of_eq rfl, .inl rfl, rfl, ?_⟩; show norm (.tup [U (a * w / 18446744073709551616), U (a * w % 18446744073709551616)]) _) | (refine ⟨_, div_h, (a * w / 18446744073709551616, a * w % 18446744073709551616, s), (by show ((0 ≤ a * w / 18446744073709551616 ∧ a * w / 18446744073709551616 < s) ∧ s < 68719476736) ∧ 0 ≤ a * w % 18446744073709551616 ∧ a * w % 18446744073709551616 < 18446744073709551616; omega), leVs_of_eq rfl, .inl rfl, rfl, ?_⟩; show norm (.tup [U ((a * w / 18446744073709551616 * 18446744073709551616 + a * w % 18446744073709551616) / s), U ((a * w / 18446744073709551616 * 18446744073709551616 + a * w % 18446744073709551616) % s)]) _; rw [hm]) | (refine ⟨inR_u64 (by omega) (by omega), ?_⟩) | refine ⟨⟨by omega, by omega⟩, ?_⟩ | fail)
  exact ⟨[], rfl, trivial, ⟨rfl, rfl, trivial⟩⟩
theorem exact_h : Holds Try.prog 38 exactS := holds_of mix Try.func38 exactLow (fun _ => rfl) exactV

/-! skiarea/skiarearef34.sum -/
def sumIr : IFn := ⟨18, [.tmp 2],
  (.seq (.ops [
    ⟨(some 2), .mov, [.const (.int .i64 0)], none⟩] false)
  (.seq (.ops [
    ⟨(some 3), .mov, [.const (.int .i64 0)], none⟩] false)
  (.seq (.seq (.ops [
    ⟨(some 4), .mov, [.const (.int .i64 0)], none⟩] false)
  (.block 0
    (.loop
      (.seq (.seq (.ops [
        ⟨(some 5), .mov, [.tmp 4], none⟩,
        ⟨(some 6), .mov, [.tmp 0], none⟩,
        ⟨(some 7), .len, [.tmp 6], none⟩,
        ⟨(some 8), .cmp .lss, [.tmp 5, .tmp 7], none⟩] false)
      (.cond (.tmp 8)
        .skip
        (.exit 0)))
      (.seq (.block 1
        (.ops [
          ⟨(some 11), .mov, [.tmp 3], none⟩,
          ⟨(some 12), .mov, [.tmp 0], none⟩,
          ⟨(some 13), .mov, [.tmp 4], none⟩,
          ⟨(some 14), .idx 1, [.tmp 12, .tmp 13], none⟩,
          ⟨(some 15), .load 1 false, [.tmp 14], none⟩,
          ⟨(some 16), .bin .add .i64 false, [.tmp 11, .tmp 15], none⟩,
          ⟨(some 3), .mov, [.tmp 16], none⟩] false))
      (.ops [
        ⟨(some 9), .mov, [.tmp 4], none⟩,
        ⟨(some 10), .bin .add .i64 false, [.tmp 9, .const (.int .i64 1)], none⟩,
        ⟨(some 4), .mov, [.tmp 10], none⟩] false))))))
  (.seq (.ops [
    ⟨(some 17), .mov, [.tmp 3], none⟩,
    ⟨(some 2), .mov, [.tmp 17], none⟩] false)
  .ret))))⟩
theorem sumLow : lowF Try.prog {} Try.f57 = some sumIr := by kernel_rfl
def sumS : Spec := spec (List Int) (fun l => [L 1 (l.map e1)]) (fun l => l.length ≤ 1000000 ∧ ∀ x ∈ l, -2199023255552 ≤ x ∧ x ≤ 2199023255552) (fun l => I l.sum)
theorem sumV : fnV Try.prog sumIr sumS := by
  intro (l : List Int) hx
  obtain ⟨hl0, hb⟩ : l.length ≤ 1000000 ∧ ∀ x ∈ l, -2199023255552 ≤ x ∧ x ≤ 2199023255552 := hx
  have hl : (l.map e1).length = l.length := List.length_map ..
  show vc _ _ _ _ ⟨argEnv 0 [L 1 (l.map e1)], [], 0⟩
  conv => whnf
  refine ⟨Nat × Int, fun xq => ⟨[(0, L 1 (l.map e1)), (3, I xq.2), (4, I xq.1)], [], 0⟩, fun xq => xq.1 ≤ l.length ∧ xq.2 = (l.take xq.1).sum, fun xq => l.length - xq.1, ⟨(0, 0), ?_, [], ⟨⟨rfl, rfl⟩, ⟨⟨rfl, rfl⟩, ⟨⟨rfl, rfl⟩, trivial⟩⟩⟩, trivial, rfl, rfl, rfl⟩, ?_⟩
  · (try dsimp only); exact ⟨Nat.zero_le _, rfl⟩
  rintro ⟨k, s⟩ hk
  obtain ⟨hk, hs⟩ : k ≤ l.length ∧ s = (l.take k).sum := hk
  (try dsimp only)
  by_cases hkl : k < l.length
  · obtain ⟨x, hx⟩ := getElem_some hkl
    have hbk := sum_bnd (l := l.take k) fun y hy => hb y (List.mem_of_mem_take hy)
    rw [← hs, List.length_take] at hbk
    have hbx := hb x (List.mem_of_getElem? hx)
    repeat' ((conv => whnf); first | (refine ⟨fun h => ?_, fun h => ?_⟩ <;> try (exfalso; first | omega | exact absurd h (by decide) | exact h rfl)) | (refine ⟨by omega, fun r hrr => ?_⟩; obtain rfl := get_row hrr hx) | (refine ⟨(k + 1, _), ⟨?_, by (try dsimp only); omega⟩, [], ⟨⟨rfl, rfl⟩, ⟨⟨rfl, rfl⟩, ⟨⟨rfl, rfl⟩, trivial⟩⟩⟩, trivial, rfl, rfl, rfl⟩; (try dsimp only); exact ⟨by omega, by rw [sum_take hx, hs]⟩) | refine ⟨⟨by omega, by omega⟩, ?_⟩ | fail)
  · rw [take_end hkl] at hs
    repeat' ((conv => whnf); first | (refine ⟨fun h => ?_, fun h => ?_⟩ <;> try (exfalso; first | omega | exact absurd h (by decide) | exact h rfl)) | fail | fail)
    exact ⟨[], rfl, trivial, congrArg (CV.int .i64) hs⟩
theorem sum_h : Holds Try.prog 57 sumS := holds_of mix Try.func57 sumLow (fun _ => rfl) sumV

end Go.Proofs.Ytbglmocgijlomaa

/- Split: Fair. -/
namespace Go.Proofs.Ytbglmocgijlomaa
open Go.RowKit
theorem good_of {a : Int} {ws : List Int} (h : chkF a ws = 0) : Good a ws := by
  unfold chkF at h
  split at h
  · omega
  split at h
  · omega
  split at h
  · rename_i h1 h2 h3
    split at h
    · omega
    rename_i h4
    obtain ⟨t0, t1⟩ := sum_ok h3
    exact ⟨by omega, by omega, by omega, h3, by omega, by omega⟩
  · omega
theorem Good.chk {a : Int} {ws : List Int} (g : Good a ws) : chkF a ws = 0 := by
  obtain ⟨h1, h2, h3, h4, h5, h6⟩ := g
  have h4' : ∀ w ∈ ws, okW w := h4
  unfold chkF
  rw [if_neg (by omega), if_neg (by omega), if_pos h4', if_neg (by omega)]
theorem not_fair {a : Int} {ws ps : List Int} {k : Nat} {w p : Int} (hw : ws[k]? = some w) (hp : ps[k]? = some p) (h : ¬ okP a ws.sum w p) : ¬ fairP a ws ps := fun f => h (f.2.1 _ (List.mem_of_getElem? (zip_get hw hp)))
theorem fair_step {a : Int} {ws ps : List Int} {k : Nat} {w p : Int} (hw : ws[k]? = some w) (hp : ps[k]? = some p) (h : okP a ws.sum w p) (hh : ∀ x ∈ (ws.zip ps).take k, okP a ws.sum x.1 x.2) : ∀ x ∈ (ws.zip ps).take (k + 1), okP a ws.sum x.1 x.2 := by
  intro x hx
  rw [take_snoc _ k _ (zip_get hw hp)] at hx
  rcases List.mem_append.1 hx with hx | hx
  · exact hh x hx
  · rw [List.mem_singleton] at hx; subst hx; exact h

/-! skiarea/split.Fair -/
def fairIr : IFn := ⟨72, [.tmp 6],
  (.seq (.ops [
    ⟨(some 6), .mov, [.const (.bool false)], none⟩] false)
  (.seq (.ops [
    ⟨(some 15), .mov, [.tmp 0], none⟩,
    ⟨(some 16), .mov, [.tmp 1], none⟩,
    ⟨(some 17), .call 37, [.tmp 15, .tmp 16], none⟩,
    ⟨(some 14), .mov, [.tmp 17], none⟩,
    ⟨(some 18), .extract 0, [.tmp 14], none⟩,
    ⟨(some 19), .extract 1, [.tmp 14], none⟩,
    ⟨(some 7), .mov, [.tmp 18], none⟩,
    ⟨(some 8), .mov, [.tmp 19], none⟩] false)
  (.seq (.seq (.ops [
    ⟨(some 20), .mov, [.tmp 8], none⟩,
    ⟨(some 21), .cmp .neq, [.tmp 20, .const (.int .i64 0)], none⟩,
    ⟨(some 22), .mov, [.tmp 21], none⟩,
    ⟨(some 23), .mov, [.tmp 2], (some (22, false))⟩,
    ⟨(some 24), .len, [.tmp 23], (some (22, false))⟩,
    ⟨(some 25), .mov, [.tmp 1], (some (22, false))⟩,
    ⟨(some 26), .len, [.tmp 25], (some (22, false))⟩,
    ⟨(some 27), .cmp .neq, [.tmp 24, .tmp 26], (some (22, false))⟩,
    ⟨(some 28), .pick, [.tmp 22, .const (.bool true), .tmp 27], none⟩] false)
  (.cond (.tmp 28)
    (.seq (.ops [
      ⟨(some 6), .mov, [.const (.bool false)], none⟩] false)
    .ret)
    .skip))
  (.seq (.ops [
    ⟨(some 9), .mov, [.const (.int .i64 0)], none⟩] false)
  (.seq (.seq (.ops [
    ⟨(some 29), .mov, [.tmp 1], none⟩,
    ⟨(some 30), .len, [.tmp 29], none⟩,
    ⟨(some 31), .mov, [.const (.int .i64 0)], none⟩] false)
  (.block 0
    (.loop
      (.seq (.ops [
        ⟨(some 32), .cmp .lss, [.tmp 31, .tmp 30], none⟩] false)
      (.seq (.cond (.tmp 32)
        .skip
        (.exit 0))
      (.seq (.block 1
        (.seq (.ops [
          ⟨(some 33), .mov, [.tmp 31], none⟩,
          ⟨(some 34), .idx 1, [.tmp 29, .tmp 31], none⟩,
          ⟨(some 35), .load 1 false, [.tmp 34], none⟩,
          ⟨(some 10), .mov, [.tmp 33], none⟩,
          ⟨(some 11), .mov, [.tmp 35], none⟩] false)
        (.seq (.ops [
          ⟨(some 37), .mov, [.tmp 0], none⟩,
          ⟨(some 38), .mov, [.tmp 11], none⟩,
          ⟨(some 39), .mov, [.tmp 7], none⟩,
          ⟨(some 40), .call 38, [.tmp 37, .tmp 38, .tmp 39], none⟩,
          ⟨(some 36), .mov, [.tmp 40], none⟩,
          ⟨(some 41), .extract 0, [.tmp 36], none⟩,
          ⟨(some 42), .extract 1, [.tmp 36], none⟩,
          ⟨(some 12), .mov, [.tmp 41], none⟩,
          ⟨(some 13), .mov, [.tmp 42], none⟩] false)
        (.seq (.seq (.ops [
          ⟨(some 43), .mov, [.tmp 2], none⟩,
          ⟨(some 44), .mov, [.tmp 10], none⟩,
          ⟨(some 45), .idx 1, [.tmp 43, .tmp 44], none⟩,
          ⟨(some 46), .load 1 false, [.tmp 45], none⟩,
          ⟨(some 47), .mov, [.tmp 12], none⟩,
          ⟨(some 48), .cmp .neq, [.tmp 46, .tmp 47], none⟩,
          ⟨(some 49), .mov, [.tmp 48], none⟩,
          ⟨(some 50), .mov, [.tmp 13], (some (49, true))⟩,
          ⟨(some 51), .cmp .eql, [.tmp 50, .const (.int .i64 0)], (some (49, true))⟩,
          ⟨(some 52), .mov, [.tmp 51], (some (49, true))⟩,
          ⟨(some 53), .mov, [.tmp 2], (some (52, false))⟩,
          ⟨(some 54), .mov, [.tmp 10], (some (52, false))⟩,
          ⟨(some 55), .idx 1, [.tmp 53, .tmp 54], (some (52, false))⟩,
          ⟨(some 56), .load 1 false, [.tmp 55], (some (52, false))⟩,
          ⟨(some 57), .mov, [.tmp 12], (some (52, false))⟩,
          ⟨(some 58), .bin .add .i64 false, [.tmp 57, .const (.int .i64 1)], (some (52, false))⟩,
          ⟨(some 59), .cmp .neq, [.tmp 56, .tmp 58], (some (52, false))⟩,
          ⟨(some 60), .pick, [.tmp 52, .const (.bool true), .tmp 59], (some (49, true))⟩,
          ⟨(some 61), .pick, [.tmp 49, .tmp 60, .const (.bool false)], none⟩] false)
        (.cond (.tmp 61)
          (.seq (.ops [
            ⟨(some 6), .mov, [.const (.bool false)], none⟩] false)
          .ret)
          .skip))
        (.ops [
          ⟨(some 62), .mov, [.tmp 9], none⟩,
          ⟨(some 63), .mov, [.tmp 2], none⟩,
          ⟨(some 64), .mov, [.tmp 10], none⟩,
          ⟨(some 65), .idx 1, [.tmp 63, .tmp 64], none⟩,
          ⟨(some 66), .load 1 false, [.tmp 65], none⟩,
          ⟨(some 67), .bin .add .i64 false, [.tmp 62, .tmp 66], none⟩,
          ⟨(some 9), .mov, [.tmp 67], none⟩] false)))))
      (.ops [
        ⟨(some 68), .bin .add .i64 false, [.tmp 31, .const (.int .i64 1)], none⟩,
        ⟨(some 31), .mov, [.tmp 68], none⟩] false)))))))
  (.seq (.ops [
    ⟨(some 69), .mov, [.tmp 9], none⟩,
    ⟨(some 70), .mov, [.tmp 0], none⟩,
    ⟨(some 71), .cmp .eql, [.tmp 69, .tmp 70], none⟩,
    ⟨(some 6), .mov, [.tmp 71], none⟩] false)
  .ret))))))⟩
theorem fairLow : lowF Try.prog {} Try.f23 = some fairIr := by kernel_rfl
def fairS : Spec := spec (Int × List Int × List Int) (fun p => [I p.1, L 1 (p.2.1.map e1), L 1 (p.2.2.map e1)]) (fun p => p.2.1.length ≤ 1000000 ∧ p.2.2.length ≤ 1000000) (fun p => B (decide (chkF p.1 p.2.1 = 0 ∧ fairP p.1 p.2.1 p.2.2)))
theorem fairV : fnV Try.prog fairIr fairS := by
  intro ⟨(a : Int), (ws : List Int), (ps : List Int)⟩ hx
  obtain ⟨hw0, hp0⟩ : ws.length ≤ 1000000 ∧ ps.length ≤ 1000000 := hx
  have hl : (ws.map e1).length = ws.length := List.length_map ..
  have hl2 : (ps.map e1).length = ps.length := List.length_map ..
  show vc _ _ _ _ ⟨argEnv 0 [I a, L 1 (ws.map e1), L 1 (ps.map e1)], [], 0⟩
  by_cases hc : chkF a ws = 0
  · have hct : chkT a ws = .tup [I ws.sum, I 0] := by unfold chkT; rw [hc, if_pos rfl]
    have g := good_of hc
    by_cases hle : ps.length = ws.length
    · repeat' ((conv => whnf); first | (refine ⟨fun h => ?_, fun h => ?_⟩ <;> try (exfalso; first | omega | exact absurd h (by decide) | exact h rfl)) | (refine ⟨_, check_h, (a, ws), hw0, leVs_of_eq rfl, .inl rfl, rfl, ?_⟩; show norm (chkT a ws) _; rw [hct]) | fail | fail)
      refine ⟨Nat × Int, fun xq => ⟨[(0, I a), (1, L 1 (ws.map e1)), (2, L 1 (ps.map e1)), (7, I ws.sum), (9, I xq.2), (29, L 1 (ws.map e1)), (30, I (ws.map e1).length), (31, I xq.1)], [], 0⟩, fun xq => (xq.1 ≤ ws.length ∧ ∀ x ∈ (ws.zip ps).take xq.1, okP a ws.sum x.1 x.2) ∧ xq.2 = (ps.take xq.1).sum ∧ -(1099511627777 * (xq.1 : Int)) ≤ xq.2 ∧ xq.2 ≤ 1099511627777 * (xq.1 : Int), fun xq => ws.length - xq.1, ⟨(0, 0), ?_, [], ⟨⟨rfl, rfl⟩, ⟨⟨rfl, rfl⟩, ⟨⟨rfl, rfl⟩, ⟨⟨rfl, rfl⟩, ⟨⟨rfl, rfl⟩, ⟨⟨rfl, rfl⟩, ⟨⟨rfl, rfl⟩, ⟨⟨rfl, rfl⟩, trivial⟩⟩⟩⟩⟩⟩⟩⟩, trivial, rfl, rfl, rfl⟩, ?_⟩
      · (try dsimp only); exact ⟨⟨Nat.zero_le _, by simp⟩, rfl, by omega, by omega⟩
      rintro ⟨k, n⟩ hk
      obtain ⟨⟨hk, hok⟩, hn, n0, n1⟩ : (k ≤ ws.length ∧ ∀ x ∈ (ws.zip ps).take k, okP a ws.sum x.1 x.2) ∧ n = (ps.take k).sum ∧ -(1099511627777 * (k : Int)) ≤ n ∧ n ≤ 1099511627777 * (k : Int) := hk
      (try dsimp only)
      by_cases hkl : k < ws.length
      ·
        obtain ⟨w, hw⟩ := getElem_some hkl
        obtain ⟨p, hp⟩ := getElem_some (xs := ps) (k := k) (by omega)
        obtain ⟨w0, w1⟩ := g.wOk w (List.mem_of_getElem? hw)
        have hws := le_sum (fun w hw => (g.wOk w hw).1) w (List.mem_of_getElem? hw)
        have hs0 := g.s0
        have hs1 := g.s1
        have ha0 := g.a0
        have ha1 := g.a1
        obtain ⟨q0, q1⟩ := g.q (List.mem_of_getElem? hw)
        have hokd : okP a ws.sum w p = (p = a * w / ws.sum ∨ (a * w % ws.sum ≠ 0 ∧ p = a * w / ws.sum + 1)) := rfl
        by_cases hop : okP a ws.sum w p
        · have hop' := hop
          rw [hokd] at hop'
          repeat' ((conv => whnf); first | (refine ⟨fun h => ?_, fun h => ?_⟩ <;> try (exfalso; first | omega | exact absurd h (by decide) | exact h rfl)) | (refine ⟨by omega, fun r hrr => ?_⟩; first | ((have hre : r = e1 w := by (first | exact get_row hrr hw | fail)); subst hre) | ((have hre : r = e1 p := by (first | exact get_row hrr hp | fail)); subst hre)) | fail | (refine ⟨_, exact_h, (a, w, ws.sum), (by show (0 ≤ a ∧ a ≤ 1099511627776) ∧ (0 ≤ w ∧ w ≤ 1000000000) ∧ (1 ≤ ws.sum ∧ ws.sum ≤ 64000000000) ∧ w ≤ ws.sum; omega), leVs_of_eq rfl, .inl rfl, rfl, ?_⟩; show norm (.tup [I (a * w / ws.sum), I (a * w % ws.sum)]) _) | (refine ⟨(k + 1, _), ⟨?_, by (try dsimp only); omega⟩, [], ⟨⟨rfl, rfl⟩, ⟨⟨rfl, rfl⟩, ⟨⟨rfl, rfl⟩, ⟨⟨rfl, rfl⟩, ⟨⟨rfl, rfl⟩, ⟨⟨rfl, rfl⟩, ⟨⟨rfl, rfl⟩, ⟨⟨rfl, rfl⟩, trivial⟩⟩⟩⟩⟩⟩⟩⟩, trivial, rfl, rfl, rfl⟩; (try dsimp only); exact ⟨⟨by omega, fair_step hw hp hop hok⟩, by rw [sum_take hp, hn], by omega, by omega⟩) | refine ⟨⟨by omega, by omega⟩, ?_⟩ | fail)
        · have hop' := hop
          rw [hokd] at hop'
          repeat' ((conv => whnf); first | (refine ⟨fun h => ?_, fun h => ?_⟩ <;> try (exfalso; first | omega | exact absurd h (by decide) | exact h rfl)) | (refine ⟨by omega, fun r hrr => ?_⟩; first | ((have hre : r = e1 w := by (first | exact get_row hrr hw | fail)); subst hre) | ((have hre : r = e1 p := by (first | exact get_row hrr hp | fail)); subst hre)) | fail | (refine ⟨_, exact_h, (a, w, ws.sum), (by show (0 ≤ a ∧ a ≤ 1099511627776) ∧ (0 ≤ w ∧ w ≤ 1000000000) ∧ (1 ≤ ws.sum ∧ ws.sum ≤ 64000000000) ∧ w ≤ ws.sum; omega), leVs_of_eq rfl, .inl rfl, rfl, ?_⟩; show norm (.tup [I (a * w / ws.sum), I (a * w % ws.sum)]) _) | refine ⟨⟨by omega, by omega⟩, ?_⟩ | fail | fail)
          all_goals (refine ⟨[], rfl, trivial, congrArg CV.bool ?_⟩; exact (decide_eq_false fun h => not_fair hw hp hop h.2).symm)
      · rw [zip_end hle hkl] at hok
        rw [take_end (by omega)] at hn
        by_cases hna : n = a
        · repeat' ((conv => whnf); first | (refine ⟨fun h => ?_, fun h => ?_⟩ <;> try (exfalso; first | omega | exact absurd h (by decide) | exact h rfl)) | fail | fail)
          all_goals (refine ⟨[], rfl, trivial, congrArg CV.bool ?_⟩; exact (decide_eq_true ⟨hc, hle, hok, hn.symm.trans hna⟩).symm)
        · repeat' ((conv => whnf); first | (refine ⟨fun h => ?_, fun h => ?_⟩ <;> try (exfalso; first | omega | exact absurd h (by decide) | exact h rfl)) | fail | fail)
          all_goals (refine ⟨[], rfl, trivial, congrArg CV.bool ?_⟩; exact (decide_eq_false fun h => hna (by rw [hn]; exact h.2.2.2)).symm)
    · repeat' ((conv => whnf); first | (refine ⟨fun h => ?_, fun h => ?_⟩ <;> try (exfalso; first | omega | exact absurd h (by decide) | exact h rfl)) | (refine ⟨_, check_h, (a, ws), hw0, leVs_of_eq rfl, .inl rfl, rfl, ?_⟩; show norm (chkT a ws) _; rw [hct]) | fail | fail)
      all_goals (refine ⟨[], rfl, trivial, congrArg CV.bool ?_⟩; exact (decide_eq_false fun h => hle h.2.1).symm)
  · have hct : chkT a ws = .tup [I 0, I (chkF a ws)] := by unfold chkT; rw [if_neg hc]
    repeat' ((conv => whnf); first | (refine ⟨fun h => ?_, fun h => ?_⟩ <;> try (exfalso; first | omega | exact absurd h (by decide) | exact h rfl)) | (refine ⟨_, check_h, (a, ws), hw0, leVs_of_eq rfl, .inl rfl, rfl, ?_⟩; show norm (chkT a ws) _; rw [hct]) | fail | fail)
    all_goals (refine ⟨[], rfl, trivial, congrArg CV.bool ?_⟩; exact (decide_eq_false fun h => hc h.1).symm)
theorem fair_h : Holds Try.prog 23 fairS := holds_of mix Try.func23 fairLow (fun _ => rfl) fairV

end Go.Proofs.Ytbglmocgijlomaa
