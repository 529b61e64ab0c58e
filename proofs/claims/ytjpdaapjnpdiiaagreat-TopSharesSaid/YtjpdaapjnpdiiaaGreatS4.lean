/- A part of the proof. -/
import Derived.Lib.BitFns
import Derived.Test.YtjpdaapjnpdiiaaGreatS3
import Derived.Test.YtjpdaapjnpdiiaaGreatShelf
import Derived.Test.YtjpdaapjnpdiiaaGreatS1
namespace Go.Proofs.YtjpdaapjnpdiiaaGreat
open Go.RowKit
theorem dg_eq (q y1 y0 : Int) : q * (y1 * 4294967296 + y0) = q * y1 * 4294967296 + q * y0 := by rw [Int.mul_add, Int.mul_assoc]
structure Dg (u d y1 y0 Q : Int) : Prop where
 y1a : 2147483648 ≤ y1
 y1b : y1 < 4294967296
 y0a : 0 ≤ y0
 y0b : y0 < 4294967296
 ua : 0 ≤ u
 ub : u < y1 * 4294967296 + y0
 da : 0 ≤ d
 db : d < 4294967296
 hQ : Q = (u * 4294967296 + d) / (y1 * 4294967296 + y0)
theorem Dg.Qa {u d y1 y0 Q : Int} (h : Dg u d y1 y0 Q) : 0 ≤ Q ∧ Q < 4294967296 := by
 obtain ⟨a1, a2, a3, a4, a5, a6, a7, a8, rfl⟩ := h
 refine ⟨Int.ediv_nonneg (by omega) (by omega), Int.ediv_lt_of_lt_mul (by omega) ?_⟩
 omega
theorem Dg.down {u d y1 y0 Q q r : Int} (h : Dg u d y1 y0 Q) (hr : q * y1 + r = u) (hq : 4294967296 ≤ q ∨ 4294967296 * r + d < q * y0) : Q ≤ q - 1 := by
 have hQ := h.Qa
 rcases hq with hq | hq
 · omega
 · have h1 := dg_eq q y1 y0
   obtain ⟨a1, a2, a3, a4, a5, a6, a7, a8, rfl⟩ := h
   have h2 : u * 4294967296 + d < q * (y1 * 4294967296 + y0) := by rw [h1]; omega
   have := Int.ediv_lt_of_lt_mul (by omega) h2
   omega
theorem Dg.up {u d y1 y0 Q q r : Int} (h : Dg u d y1 y0 Q) (hr : q * y1 + r = u) (hq : q * y0 ≤ 4294967296 * r + d) : q ≤ Q := by
 have h1 := dg_eq q y1 y0
 obtain ⟨a1, a2, a3, a4, a5, a6, a7, a8, rfl⟩ := h
 exact Int.le_ediv_of_mul_le (by omega) (by rw [h1]; omega)
theorem Dg.big {u d y1 y0 Q q r : Int} (h : Dg u d y1 y0 Q) (hr : q * y1 + r = u) (hb : 4294967296 ≤ r) (hq : q ≤ 4294967296) : q ≤ Q := by
 refine h.up hr ?_
 have h1 : q * y0 ≤ 4294967296 * y0 := Int.mul_le_mul_of_nonneg_right hq h.y0a
 have := h.y0b
 have := h.da
 omega
theorem Dg.start {u d y1 y0 Q : Int} (h : Dg u d y1 y0 Q) : (Q ≤ u / y1 ∧ u / y1 ≤ 4294967297) ∧ (u / y1 * y1 + (u - u / y1 * y1) = u ∧ 0 ≤ u - u / y1 * y1 ∧ u - u / y1 * y1 < 4294967296) ∧ 0 ≤ u / y1 * y1 := by
 have hQ := h.hQ
 obtain ⟨a1, a2, a3, a4, a5, a6, a7, a8, -⟩ := h
 have hm := Int.mul_ediv_add_emod u y1
 rw [Int.mul_comm] at hm
 have h1 := Int.emod_nonneg u (show y1 ≠ 0 by omega)
 have h2 := Int.emod_lt_of_pos u (show 0 < y1 by omega)
 have h3 := Int.ediv_nonneg a5 (show 0 ≤ y1 by omega)
 refine ⟨⟨?_, ?_⟩, ⟨by omega, by omega, by omega⟩, Int.mul_nonneg h3 (by omega)⟩
 · have h4 : u * 4294967296 + d < (u / y1 + 1) * (y1 * 4294967296 + y0) := by
     rw [dg_eq]
     have h5 : (u / y1 + 1) * y1 = u / y1 * y1 + y1 := by rw [Int.add_mul, Int.one_mul]
     have h6 : 0 ≤ (u / y1 + 1) * y0 := Int.mul_nonneg (by omega) a3
     omega
   have := Int.ediv_lt_of_lt_mul (by omega) h4
   omega
 · have : u / y1 < 4294967298 := Int.ediv_lt_of_lt_mul (by omega) (by omega)
   omega
theorem Dg.less {y1 q : Int} : (q - 1) * y1 = q * y1 - y1 := by rw [Int.sub_mul, Int.one_mul]
theorem Dg.rest {u d y1 y0 Q : Int} (h : Dg u d y1 y0 Q) : 0 ≤ u * 4294967296 + d - Q * (y1 * 4294967296 + y0) ∧ u * 4294967296 + d - Q * (y1 * 4294967296 + y0) < y1 * 4294967296 + y0 := by
 obtain ⟨a1, a2, a3, a4, a5, a6, a7, a8, rfl⟩ := h
 have hm := Int.mul_ediv_add_emod (u * 4294967296 + d) (y1 * 4294967296 + y0)
 rw [Int.mul_comm] at hm
 have h1 := Int.emod_nonneg (u * 4294967296 + d) (show y1 * 4294967296 + y0 ≠ 0 by omega)
 have h2 := Int.emod_lt_of_pos (u * 4294967296 + d) (show 0 < y1 * 4294967296 + y0 by omega)
 omega
theorem Dg.prod {u d y1 y0 Q q : Int} (h : Dg u d y1 y0 Q) (h0 : 0 ≤ q) (hq : q < 4294967296) : 0 ≤ q * y0 ∧ q * y0 < 18446744073709551616 := by
 refine ⟨Int.mul_nonneg h0 h.y0a, ?_⟩
 have h1 : q * y0 ≤ 4294967295 * y0 := Int.mul_le_mul_of_nonneg_right (by omega) h.y0a
 have := h.y0b
 omega
theorem bl_bounds : ∀ (f x : Nat), x < 2 ^ f → x ≠ 0 → ∃ k, Lib.bitLenAux f x = k + 1 ∧ 2 ^ k ≤ x ∧ x < 2 ^ (k + 1)
 | 0, x, h, h0 => by simp at h; omega
 | f + 1, x, h, h0 => by
   rw [Lib.bitLenAux, if_neg h0]
   by_cases h2 : x / 2 = 0
   · rw [h2]
     refine ⟨0, by cases f <;> simp [Lib.bitLenAux], by simp; omega, by simp; omega⟩
   · rw [Nat.pow_succ] at h
     obtain ⟨k, e, h3, h4⟩ := bl_bounds f (x / 2) (by omega) h2
     refine ⟨k + 1, by rw [e, Nat.add_comm], ?_, ?_⟩
     · rw [Nat.pow_succ]; omega
     · rw [Nat.pow_succ]; omega
theorem shl_norm {y : Int} (h0 : 0 < y) (h1 : y < 68719476736) : ∃ s : Nat, (Lib.bitLen y.toNat : Int) = 64 - s ∧ (28 ≤ s ∧ s < 64) ∧ 9223372036854775808 ≤ y * 2 ^ s ∧ y * 2 ^ s < 18446744073709551616 := by
 obtain ⟨n, rfl⟩ := Int.eq_ofNat_of_zero_le (show 0 ≤ y by omega)
 rw [Int.toNat_natCast]
 have hb := Lib.bitLen_le n 36 (by omega) (by omega)
 obtain ⟨k, g1, g2, g3⟩ := bl_bounds 64 n (by omega) (by omega)
 change Lib.bitLen n = k + 1 at g1
 rw [g1] at hb ⊢
 refine ⟨63 - k, by omega, by omega, ?_, ?_⟩
 · have : 2 ^ k * 2 ^ (63 - k) ≤ n * 2 ^ (63 - k) := Nat.mul_le_mul_right _ g2
   rw [← Nat.pow_add, show k + (63 - k) = 63 by omega] at this
   have h2 : (((2 : Nat) ^ 63 : Nat) : Int) ≤ ((n * 2 ^ (63 - k) : Nat) : Int) := Int.ofNat_le.2 this
   rw [Int.natCast_mul, Int.natCast_pow] at h2
   exact h2
 · have : n * 2 ^ (63 - k) < 2 ^ (k + 1) * 2 ^ (63 - k) := Nat.mul_lt_mul_of_pos_right g3 (Nat.two_pow_pos _)
   rw [← Nat.pow_add, show k + 1 + (63 - k) = 64 by omega] at this
   have h2 : ((n * 2 ^ (63 - k) : Nat) : Int) < (((2 : Nat) ^ 64 : Nat) : Int) := Int.ofNat_lt.2 this
   rw [Int.natCast_mul, Int.natCast_pow] at h2
   exact h2
theorem two_pos (s : Nat) : (0 : Int) < 2 ^ s := Int.pow_pos (by decide)
theorem shl_val {x : Int} {s : Nat} (h0 : 0 ≤ x * 2 ^ s) (h1 : x * 2 ^ s < 18446744073709551616) (hs : s < 64) : IntKind.wrap .u64 (x * 2 ^ Nat.min ((s : Int).toNat) (IntKind.bits .u64)) = x * 2 ^ s := by
 rw [Int.toNat_natCast, show Nat.min s (IntKind.bits .u64) = s from Nat.min_eq_left (by show s ≤ 64; omega), wrap_u64]
 exact Int.emod_eq_of_lt h0 h1
theorem shl_mod {x : Int} {s : Nat} (hs : s < 64) : IntKind.wrap .u64 (x * 2 ^ Nat.min ((s : Int).toNat) (IntKind.bits .u64)) = x * 2 ^ s % 18446744073709551616 := by
 rw [Int.toNat_natCast, show Nat.min s (IntKind.bits .u64) = s from Nat.min_eq_left (by show s ≤ 64; omega), wrap_u64]
theorem shr_val (x : Int) {j : Int} {s : Nat} (hj : j = s) (hs : s < 64) : x.fdiv (2 ^ Nat.min (j.toNat) (IntKind.bits .u64)) = x / 2 ^ s := by
 subst hj
 rw [Int.toNat_natCast, show Nat.min s (IntKind.bits .u64) = s from Nat.min_eq_left (by show s ≤ 64; omega), Int.fdiv_eq_ediv_of_nonneg _ (Int.le_of_lt (two_pos s))]
theorem or_val {a b : Int} {s : Nat} (ha : 0 ≤ a) (h : a * 2 ^ s < 18446744073709551616) (hb : 0 ≤ b) (hbs : b < 2 ^ s) (hs : s < 64) : IntKind.wrap .u64 ((BitVec.ofInt (IntKind.bits .u64) (a * 2 ^ s) ||| BitVec.ofInt (IntKind.bits .u64) b).toNat) = a * 2 ^ s + b := by
 obtain ⟨m, rfl⟩ := Int.eq_ofNat_of_zero_le ha
 obtain ⟨n, rfl⟩ := Int.eq_ofNat_of_zero_le hb
 have e : ((m : Int) * 2 ^ s) = ((m * 2 ^ s : Nat) : Int) := by rw [Int.natCast_mul, Int.natCast_pow]; rfl
 rw [e] at h ⊢
 have hbs' : n < 2 ^ s := by
   have : (n : Int) < ((2 ^ s : Nat) : Int) := by rw [Int.natCast_pow]; exact hbs
   exact Int.ofNat_lt.1 this
 have h64 : 2 ^ s ≤ 2 ^ 63 := Nat.pow_le_pow_right (by decide) (by omega)
 have hn : n < 18446744073709551616 := by have : (2 : Nat) ^ 63 = 9223372036854775808 := by decide
                                          omega
 have h1 : (BitVec.ofInt (IntKind.bits .u64) ((m * 2 ^ s : Nat) : Int)).toNat = m * 2 ^ s := by
   rw [BitVec.toNat_ofInt]; show (((m * 2 ^ s : Nat) : Int) % 18446744073709551616).toNat = _; omega
 have h2 : (BitVec.ofInt (IntKind.bits .u64) (n : Int)).toNat = n := by
   rw [BitVec.toNat_ofInt]; show ((n : Int) % 18446744073709551616).toNat = _; omega
 rw [BitVec.toNat_or, h1, h2, Nat.mul_comm m, ← Nat.two_pow_add_eq_or_of_lt hbs', wrap_u64]
 have h3 : m * 2 ^ s + n < 18446744073709551616 := by
   -- the greatest multiple of 2^s below 2^64 is 2^64 - 2^s
   have h4 : 2 ^ s * 2 ^ (64 - s) = 18446744073709551616 := by rw [← Nat.pow_add, show s + (64 - s) = 64 by omega]
   have h5 : m < 2 ^ (64 - s) := by
     refine Nat.lt_of_mul_lt_mul_left (a := 2 ^ s) ?_
     rw [h4, Nat.mul_comm]; omega
   have h6 : (m + 1) * 2 ^ s ≤ 2 ^ (64 - s) * 2 ^ s := Nat.mul_le_mul_right _ h5
   rw [Nat.mul_comm (2 ^ (64 - s)), h4, Nat.add_mul, Nat.one_mul] at h6
   omega
 rw [Nat.mul_comm (2 ^ s)]
 omega
theorem num_shl {hi lo y : Int} {s : Nat} (h0 : 0 ≤ hi) (h1 : hi < y) (l0 : 0 ≤ lo) (l1 : lo < 18446744073709551616) (hs : s < 64) (hy : y * 2 ^ s < 18446744073709551616) :
   (hi * 18446744073709551616 + lo) * 2 ^ s = (hi * 2 ^ s + lo / 2 ^ (64 - s)) * 18446744073709551616 + lo * 2 ^ s % 18446744073709551616 ∧ (0 ≤ lo / 2 ^ (64 - s) ∧ lo / 2 ^ (64 - s) < 2 ^ s) ∧ (0 ≤ hi * 2 ^ s ∧ hi * 2 ^ s < 18446744073709551616) ∧ hi * 2 ^ s + lo / 2 ^ (64 - s) < y * 2 ^ s ∧ 0 ≤ hi * 2 ^ s + lo / 2 ^ (64 - s) := by
 have hp := two_pos s
 have hq := two_pos (64 - s)
 have h4 : (2 : Int) ^ s * 2 ^ (64 - s) = 18446744073709551616 := by rw [← Int.pow_add, show s + (64 - s) = 64 by omega]; rfl
 have e1 : lo * 2 ^ s / 18446744073709551616 = lo / 2 ^ (64 - s) := by
   rw [← h4, Int.mul_comm (2 ^ s), Int.mul_ediv_mul_of_pos_left _ _ hp]
 have hm := Int.mul_ediv_add_emod (lo * 2 ^ s) 18446744073709551616
 rw [e1] at hm
 have d0 : 0 ≤ lo / 2 ^ (64 - s) := Int.ediv_nonneg l0 (Int.le_of_lt hq)
 have d1 : lo / 2 ^ (64 - s) < 2 ^ s := Int.ediv_lt_of_lt_mul hq (by rw [h4]; exact l1)
 have a0 : 0 ≤ hi * 2 ^ s := Int.mul_nonneg h0 (Int.le_of_lt hp)
 have a1 : (hi + 1) * 2 ^ s ≤ y * 2 ^ s := Int.mul_le_mul_of_nonneg_right (by omega) (Int.le_of_lt hp)
 rw [Int.add_mul, Int.one_mul] at a1
 refine ⟨?_, ⟨d0, d1⟩, ⟨a0, by omega⟩, by omega, by omega⟩
 rw [Int.add_mul, Int.add_mul, Int.mul_right_comm]
 omega
theorem div_fin {N y u d1 d0 y1 y0 Q1 Q0 : Int} {s : Nat} (hy : 0 < y) (ey : y * 2 ^ s = y1 * 4294967296 + y0) (eN : N * 2 ^ s = u * 18446744073709551616 + (d1 * 4294967296 + d0))
   (D2 : Dg (u * 4294967296 + d1 - Q1 * (y1 * 4294967296 + y0)) d0 y1 y0 Q0) :
   Q1 * 4294967296 + Q0 = N / y ∧ ((u * 4294967296 + d1 - Q1 * (y1 * 4294967296 + y0)) * 4294967296 + d0 - Q0 * (y1 * 4294967296 + y0)) / 2 ^ s = N % y := by
 have hp := two_pos s
 obtain ⟨r0, r1⟩ := D2.rest
 rw [← ey] at r0 r1 ⊢
 have hY : 0 < y * 2 ^ s := Int.mul_pos hy hp
 have e1 : (Q1 * 4294967296 + Q0) * (y * 2 ^ s) = Q1 * (y * 2 ^ s) * 4294967296 + Q0 * (y * 2 ^ s) := by rw [Int.add_mul, Int.mul_right_comm]
 generalize hR : (u * 4294967296 + d1 - Q1 * (y * 2 ^ s)) * 4294967296 + d0 - Q0 * (y * 2 ^ s) = R at *
 have e2 : N * 2 ^ s = R + (Q1 * 4294967296 + Q0) * (y * 2 ^ s) := by rw [e1, eN, ← hR]; omega
 have q1 : N * 2 ^ s / (y * 2 ^ s) = Q1 * 4294967296 + Q0 := by rw [e2, Int.add_mul_ediv_right _ _ (by omega), Int.ediv_eq_zero_of_lt r0 r1]; omega
 have q2 : N * 2 ^ s % (y * 2 ^ s) = R := by rw [e2, Int.add_mul_emod_self_right, Int.emod_eq_of_lt r0 r1]
 rw [Int.mul_ediv_mul_of_pos_left _ _ hp] at q1
 refine ⟨q1.symm, ?_⟩
 have q3 : N * 2 ^ s % (y * 2 ^ s) = N % y * 2 ^ s := by
   rw [Int.emod_def, Int.mul_ediv_mul_of_pos_left _ _ hp, Int.emod_def, Int.sub_mul]
   congr 1
   rw [Int.mul_right_comm]
 rw [← q2, q3]
 exact Int.mul_ediv_cancel _ (by omega)
end Go.Proofs.YtjpdaapjnpdiiaaGreat
namespace Go.Proofs.YtjpdaapjnpdiiaaGreat
open Go.RowKit Go.Proofs
theorem len64_x (s : St) (x : Int) (h0 : 0 ≤ x) (h1 : x ≤ 18446744073709551615) (K : SV → St → Prop) (hK : K (I (Lib.bitLen x.toNat)) s) : callX Tryz.prog 112 s [U x] K := by
 refine ⟨fun v s' => v = I (Lib.bitLen x.toNat) ∧ s' = s, fun F w0 ι w us hm hr => ?_, fun v s' h => by obtain ⟨rfl, rfl⟩ := h; exact hK⟩
 obtain ⟨u, ur, rfl, hu, hr⟩ := replist_cons hr
 obtain rfl := replist_nil hr
 obtain rfl := rep_int hu
 refine Calls.mono (calls_of_every_depth fun D => AnySM.bits_Len64InS Tryz.len64A D x w h0 h1) ?_
 rintro e w' ⟨rfl, rfl⟩
 exact ⟨_, rfl, .refl _, ι, _, s, rfl, step_nop hm, .c _ _ (.int ..), rfl, rfl⟩
def lzIr : IFn := ⟨6, [.tmp 2], (zq [ zl 2 .mov [zi 0]] (zq [ zm 3 0, zo 4 (.callx 112) [3], zl 5 (.bin .sub .i64 false) [zi 64, .tmp 4], zm 2 5] .ret))⟩
theorem lzLow : lowF Tryz.prog { exts := [4] } Tryz.f95 = some lzIr := by kernel_rfl
def lzS : Spec := spec Int (fun y => [U y]) (fun y => 0 < y ∧ y < 68719476736) (fun y => I (64 - Lib.bitLen y.toNat))
theorem lzV : fnV Tryz.prog lzIr lzS := by
 intro (y : Int) hx
 obtain ⟨y0, y1⟩ : 0 < y ∧ y < 68719476736 := hx
 obtain ⟨s, hb, hs, -⟩ := shl_norm y0 y1
 show vc _ _ _ _ ⟨argEnv 0 [U y], [], 0⟩
 conv => whnf
 refine len64_x _ y (by omega) (by omega) _ ?_
 repeat' ((conv => whnf); first | refine ⟨⟨by omega, by omega⟩, ?_⟩ | fail)
 exact ⟨[], rfl, trivial, rfl⟩
theorem lz_h : Holds Tryz.prog 95 lzS := holds_of mix Tryz.func95 lzLow (fun _ => rfl) lzV
end Go.Proofs.YtjpdaapjnpdiiaaGreat
namespace Go.Proofs.YtjpdaapjnpdiiaaGreat
open Go.RowKit
def divIr : IFn := ⟨135, [.tmp 6, .tmp 7], (zq [ zl 6 .mov [.const (.int .u64 0)], zl 7 .mov [.const (.int .u64 0)]] (.seq (zq [ zm 19 2, zl 20 (.cmp .eql) [.tmp 19, .const (.int .u64 0)]] (.cond (.tmp 20) (zp [ zl 21 (.load 1 false) [.global 0], zn .bad []]) .skip)) (.seq (zq [ zm 22 2, zm 23 0, zo 24 (.cmp .leq) [22, 23]] (.cond (.tmp 24) (zp [ zl 25 (.load 1 false) [.global 1], zn .bad []]) .skip)) (.seq (zq [ zm 26 0, zl 27 (.cmp .eql) [.tmp 26, .const (.int .u64 0)]] (.cond (.tmp 27) (.seq (.ops [ zm 28 1, zm 29 2, zo 30 (.bin .quo .u64 false) [28, 29], zm 31 1, zm 32 2, zo 33 (.bin .rem .u64 false) [31,
 32], zm 6 30, zm 7 33] true) .ret) .skip)) (zq [ zm 34 2, zo 35 (.call 95) [34], zo 36 (.conv .u64) [35], zm 8 36] (zq [ zm 37 2, zm 38 8, zo 39 (.bin .shl .u64 false) [37, 38], zm 2 39] (zq [ zm 40 2, zl 41 (.bin .shr .u64 false) [.tmp 40, .const (.int .u64 32)], zm 9 41] (zq [ zm 42 2, zl 43 (.bin .and .u64 false) [.tmp 42, .const (.int .u64 4294967295)], zm 10 43] (zq [ zm 44 0, zm 45 8, zo 46 (.bin .shl .u64 false) [44, 45], zm 47 1, zm 48 8, zl 49 (.bin .sub .u64 false) [.const (.int .u64 64), .tmp 48], zo 50 (.bin .shr .u64 false) [47, 49], zo 51 (.bin .or .u64 false) [46, 50], zm 11 51]
 (zq [ zm 52 1, zm 53 8, zo 54 (.bin .shl .u64 false) [52, 53], zm 12 54] (zq [ zm 55 12, zl 56 (.bin .shr .u64 false) [.tmp 55, .const (.int .u64 32)], zm 13 56] (zq [ zm 57 12, zl 58 (.bin .and .u64 false) [.tmp 57, .const (.int .u64 4294967295)], zm 14 58] (zq [ zm 59 11, zm 60 9, zo 61 (.bin .quo .u64 false) [59, 60], zm 15 61] (zq [ zm 62 11, zm 63 15, zm 64 9, zo 65 (.bin .mul .u64 false) [63, 64], zo 66 (.bin .sub .u64 false) [62, 65], zm 16 66] (.seq (.block 0 (.loop (.seq (zq [ zm 67 15, zl 68 (.cmp .geq) [.tmp 67, .const (.int .u64 4294967296)], zm 69 68, zw 70 15 69 false, zw 71 10 69
 false, zg 72 (.bin .mul .u64 false) [70, 71] 69 false, zw 73 16 69 false, zh 74 (.bin .mul .u64 false) [.const (.int .u64 4294967296), .tmp 73] 69 false, zw 75 13 69 false, zg 76 (.bin .add .u64 false) [74, 75] 69 false, zg 77 (.cmp .gtr) [72, 76] 69 false, zl 78 .pick [.tmp 69, zv, .tmp 77]] (.cond (.tmp 78) .skip (.exit 0))) (.block 1 (zq [ zm 79 15, zl 80 (.bin .sub .u64 false) [.tmp 79, .const (.int .u64 1)], zm 15 80] (zq [ zm 81 16, zm 82 9, zo 83 (.bin .add .u64 false) [81, 82], zm 16 83] (zq [ zm 84 16, zl 85 (.cmp .geq) [.tmp 84, .const (.int .u64 4294967296)]] (.cond (.tmp 85) (.exit
 0) .skip)))))))) (zq [ zm 86 11, zl 87 (.bin .mul .u64 true) [.tmp 86, .const (.int .u64 4294967296)], zm 88 13, zo 89 (.bin .add .u64 true) [87, 88], zm 90 15, zm 91 2, zo 92 (.bin .mul .u64 true) [90, 91], zo 93 (.bin .sub .u64 true) [89, 92], zm 17 93] (zq [ zm 94 17, zm 95 9, zo 96 (.bin .quo .u64 false) [94, 95], zm 18 96] (zq [ zm 97 17, zm 98 18, zm 99 9, zo 100 (.bin .mul .u64 false) [98, 99], zo 101 (.bin .sub .u64 false) [97, 100], zm 16 101] (.seq (.block 2 (.loop (.seq (zq [ zm 102 18, zl 103 (.cmp .geq) [.tmp 102, .const (.int .u64 4294967296)], zm 104 103, zw 105 18 104 false, zw
 106 10 104 false, zg 107 (.bin .mul .u64 false) [105, 106] 104 false, zw 108 16 104 false, zh 109 (.bin .mul .u64 false) [.const (.int .u64 4294967296), .tmp 108] 104 false, zw 110 14 104 false, zg 111 (.bin .add .u64 false) [109, 110] 104 false, zg 112 (.cmp .gtr) [107, 111] 104 false, zl 113 .pick [.tmp 104, zv, .tmp 112]] (.cond (.tmp 113) .skip (.exit 2))) (.block 3 (zq [ zm 114 18, zl 115 (.bin .sub .u64 false) [.tmp 114, .const (.int .u64 1)], zm 18 115] (zq [ zm 116 16, zm 117 9, zo 118 (.bin .add .u64 false) [116, 117], zm 16 118] (zq [ zm 119 16, zl 120 (.cmp .geq) [.tmp 119, .const
 (.int .u64 4294967296)]] (.cond (.tmp 120) (.exit 2) .skip)))))))) (zq [ zm 121 15, zl 122 (.bin .mul .u64 false) [.tmp 121, .const (.int .u64 4294967296)], zm 123 18, zo 124 (.bin .add .u64 false) [122, 123], zm 125 17, zl 126 (.bin .mul .u64 true) [.tmp 125, .const (.int .u64 4294967296)], zm 127 14, zo 128 (.bin .add .u64 true) [126, 127], zm 129 18, zm 130 2, zo 131 (.bin .mul .u64 true) [129, 130], zo 132 (.bin .sub .u64 true) [128, 131], zm 133 8, zo 134 (.bin .shr .u64 false) [132, 133], zm 6 124, zm 7 134] .ret))))))))))))))))))))⟩
theorem divLow : lowF Tryz.prog { wraps := [87, 89, 92, 93, 126, 128, 131, 132] } Tryz.f78 = some divIr := by kernel_rfl
def divS : Spec := spec (Int × Int × Int) (fun p => [U p.1, U p.2.1, U p.2.2]) (fun p => ((0 ≤ p.1 ∧ p.1 < p.2.2) ∧ p.2.2 < 68719476736) ∧ 0 ≤ p.2.1 ∧ p.2.1 < 18446744073709551616) (fun p => .tup [U ((p.1 * 18446744073709551616 + p.2.1) / p.2.2), U ((p.1 * 18446744073709551616 + p.2.1) % p.2.2)])
set_option maxHeartbeats 2000000 in
theorem divV : fnV Tryz.prog divIr divS := by
 intro ⟨(hi : Int), (lo : Int), (y : Int)⟩ hx
 obtain ⟨⟨⟨h0, h1⟩, hy⟩, l0, l1⟩ : ((0 ≤ hi ∧ hi < y) ∧ y < 68719476736) ∧ 0 ≤ lo ∧ lo < 18446744073709551616 := hx
 show vc _ _ _ _ ⟨argEnv 0 [U hi, U lo, U y], [], 0⟩
 by_cases hz : hi = 0
 · subst hz
   have ed := Int.tdiv_eq_ediv_of_nonneg (b := y) l0
   have em := Int.tmod_eq_emod_of_nonneg (b := y) l0
   have d0 := Int.ediv_nonneg l0 (show 0 ≤ y by omega)
   have d1 := Int.ediv_le_self y l0
   repeat' ((conv => whnf); first | (refine ⟨fun h => ?_, fun h => ?_⟩ <;> try (exfalso; first | omega | (revert h; decide) | exact h rfl)) | (refine ⟨⟨by omega, inR_u64 (by omega) (by omega)⟩, ?_⟩; rw [ed]) | (refine ⟨by omega, ?_⟩; rw [em]) | fail)
   refine ⟨[], rfl, trivial, ?_⟩
   show leR _ (.tup [U ((0 * 18446744073709551616 + lo) / y), U ((0 * 18446744073709551616 + lo) % y)])
   rw [Int.zero_mul, Int.zero_add]
   exact ⟨rfl, rfl, trivial⟩
 obtain ⟨s, hb, ⟨s0, s1⟩, n0, n1⟩ := shl_norm (y := y) (by omega) hy
 have hlz : 64 - (Lib.bitLen y.toNat : Int) = s := by omega
 obtain ⟨eN, ⟨b0, b1⟩, ⟨a0, a1⟩, u1, u0⟩ := num_shl h0 h1 l0 l1 s1 n1
 have e1 := shl_val (x := y) (s := s) (by omega) n1 s1
 have e2 := shl_val (x := hi) (s := s) a0 a1 s1
 have e3 := shr_val lo (j := 64 - (s : Int)) (s := 64 - s) (by omega) (by omega)
 have e4 := or_val (a := hi) (s := s) h0 a1 b0 b1 s1
 have e5 := shl_mod (x := lo) (s := s) s1
 have e6 := low32 (y * 2 ^ s)
 have e7 := low32 (lo * 2 ^ s % 18446744073709551616)
 have ey : y * 2 ^ s = y * 2 ^ s / 4294967296 * 4294967296 + y * 2 ^ s % 4294967296 := by omega
 have ed : lo * 2 ^ s % 18446744073709551616 = lo * 2 ^ s % 18446744073709551616 / 4294967296 * 4294967296 + lo * 2 ^ s % 18446744073709551616 % 4294967296 := by omega
 have m0 : 0 ≤ lo * 2 ^ s % 18446744073709551616 ∧ lo * 2 ^ s % 18446744073709551616 < 18446744073709551616 := ⟨Int.emod_nonneg _ (by decide), Int.emod_lt_of_pos _ (by decide)⟩
 have e8 := shr32 (y * 2 ^ s)
 have e9 := shr32 (lo * 2 ^ s % 18446744073709551616)
 rw [e4.symm.trans e4] at u1
 generalize hu : hi * 2 ^ s + lo / 2 ^ (64 - s) = u at *
 generalize hY : y * 2 ^ s = Y at *
 generalize hM : lo * 2 ^ s % 18446744073709551616 = M at *
 obtain ⟨y1, hy1⟩ : ∃ y1, y1 = Y / 4294967296 := ⟨_, rfl⟩
 obtain ⟨y0, hy0⟩ : ∃ y0, y0 = Y % 4294967296 := ⟨_, rfl⟩
 obtain ⟨d1, hd1⟩ : ∃ d1, d1 = M / 4294967296 := ⟨_, rfl⟩
 obtain ⟨d0, hd0⟩ : ∃ d0, d0 = M % 4294967296 := ⟨_, rfl⟩
 rw [← hy0] at e6
 rw [← hd0] at e7
 rw [← hy1] at e8
 rw [← hd1] at e9
 have eY : Y = y1 * 4294967296 + y0 := by omega
 obtain ⟨Q1, hQ1⟩ : ∃ Q, Q = (u * 4294967296 + d1) / (y1 * 4294967296 + y0) := ⟨_, rfl⟩
 have D1 : Dg u d1 y1 y0 Q1 := ⟨by omega, by omega, by omega, by omega, by omega, by omega, by omega, by omega, hQ1⟩
 have D1s := D1.start
 obtain ⟨r0, r1⟩ := D1.rest
 obtain ⟨v, hv⟩ : ∃ v, v = u * 4294967296 + d1 - Q1 * (y1 * 4294967296 + y0) := ⟨_, rfl⟩
 rw [← hv] at r0 r1
 obtain ⟨Q0, hQ0⟩ : ∃ Q, Q = (v * 4294967296 + d0) / (y1 * 4294967296 + y0) := ⟨_, rfl⟩
 have D2 : Dg v d0 y1 y0 Q0 := ⟨by omega, by omega, by omega, by omega, r0, r1, by omega, by omega, hQ0⟩
 have D2s := D2.start
 have t1 := Int.tdiv_eq_ediv_of_nonneg (b := y1) u0
 have t2 := Int.tdiv_eq_ediv_of_nonneg (b := y1) r0
 have f0 := Int.ediv_nonneg u0 (show 0 ≤ y1 by omega)
 have f1 := Int.ediv_nonneg r0 (show 0 ≤ y1 by omega)
 have hq1 := D1.Qa
 have hq0 := D2.Qa
 have hvY : v = u * 4294967296 + d1 - Q1 * Y := by rw [eY]; exact hv
 have hw1 : IntKind.wrap .u64 (IntKind.wrap .u64 (IntKind.wrap .u64 (u * 4294967296) + d1) - IntKind.wrap .u64 (Q1 * Y)) = v := by
   rw [wrap_u64, wrap_u64, wrap_u64, wrap_u64]; omega
 obtain ⟨g0, g1⟩ := D2.rest
 obtain ⟨R, hR⟩ : ∃ R, R = v * 4294967296 + d0 - Q0 * (y1 * 4294967296 + y0) := ⟨_, rfl⟩
 rw [← hR] at g0 g1
 have hRY : R = v * 4294967296 + d0 - Q0 * Y := by rw [eY]; exact hR
 have hw2 : IntKind.wrap .u64 (IntKind.wrap .u64 (IntKind.wrap .u64 (v * 4294967296) + d0) - IntKind.wrap .u64 (Q0 * Y)) = R := by
   rw [wrap_u64, wrap_u64, wrap_u64, wrap_u64]; omega
 have hfin := div_fin (N := hi * 18446744073709551616 + lo) (y := y) (s := s) (u := u) (d1 := d1) (d0 := d0) (y1 := y1) (y0 := y0) (Q1 := Q1) (Q0 := Q0) (by omega) (by rw [hY]; exact eY) (by rw [eN]; omega) (by rw [← hv]; exact D2)
 rw [← hv, ← hR] at hfin
 obtain ⟨hN1, hN2⟩ := hfin
 repeat' ((conv => whnf); first | (refine ⟨fun h => ?_, fun h => ?_⟩ <;> try (exfalso; first | omega | (revert h; decide) | exact h rfl)) | (refine ⟨_, lz_h, y, (by show 0 < y ∧ y < 68719476736; omega), leVs_of_eq rfl, .inl rfl, rfl, ?_⟩; show norm (I (64 - Lib.bitLen y.toNat)) _; rw [hlz]) | (refine ⟨by omega, ?_⟩; first | rw [e1] | rw [e2] | rw [e3] | rw [e5]) | (rw [e4]) | (rw [e6]) | (rw [e7]) | (refine ⟨by decide, ?_⟩; first | rw [e8] | rw [e9]) | (refine ⟨⟨by omega, by rw [t1]; exact inR_u64 (by omega) (by omega)⟩, ?_⟩; rw [t1]) | (refine ⟨inR_u64 (by omega) (by omega), ?_⟩) | fail)
 refine ⟨Int × Int, fun xq => ⟨[(2, U Y), (8, U s), (9, U y1), (10, U y0), (11, U u), (13, U d1), (14, U d0), (15, U xq.1), (16, U xq.2)], [], 0⟩, fun xq => ((xq.1 * y1 + xq.2 = u ∧ Q1 ≤ xq.1) ∧ xq.1 ≤ 4294967297) ∧ 0 ≤ xq.2 ∧ xq.2 < 4294967296, fun xq => xq.1.toNat, ⟨(_, _), ?_, [], ⟨⟨rfl, rfl⟩, ⟨rfl, rfl⟩, ⟨rfl, rfl⟩, ⟨rfl, rfl⟩, ⟨rfl, rfl⟩, ⟨rfl, rfl⟩, ⟨rfl, rfl⟩, ⟨rfl, rfl⟩, ⟨rfl, rfl⟩, trivial⟩, trivial, rfl, rfl, rfl⟩, ?_⟩
 · (try dsimp only); exact ⟨⟨⟨D1s.2.1.1, D1s.1.1⟩, D1s.1.2⟩, D1s.2.1.2⟩
 rintro ⟨q, r⟩ hk
 obtain ⟨⟨⟨hr, hQq⟩, hq1⟩, r0, r1⟩ : ((q * y1 + r = u ∧ Q1 ≤ q) ∧ q ≤ 4294967297) ∧ 0 ≤ r ∧ r < 4294967296 := hk
 (try dsimp only)
 have hQ := D1.Qa
 have hless : (q - 1) * y1 = q * y1 - y1 := Dg.less
 by_cases hc : 4294967296 ≤ q ∨ 4294967296 * r + d1 < q * y0
 · have hd := D1.down hr hc
   have hr' : (q - 1) * y1 + (r + y1) = u := by omega
   by_cases hbk : 4294967296 ≤ r + y1
   · have he : q - 1 = Q1 := Int.le_antisymm (D1.big hr' hbk (by omega)) hd
     by_cases hqb : 4294967296 ≤ q
     · repeat' ((conv => whnf); first | (refine ⟨fun h => ?_, fun h => ?_⟩ <;> try (exfalso; first | omega | (revert h; decide) | exact h rfl)) | (refine ⟨inR_u64 (by omega) (by omega), ?_⟩) | (rw [he]) | fail)
       repeat' ((conv => whnf); first | (rw [hw1]) | (refine ⟨⟨by omega, by rw [t2]; exact inR_u64 (by omega) (by omega)⟩, ?_⟩; rw [t2]) | (refine ⟨inR_u64 (by omega) (by omega), ?_⟩) | fail)
       refine ⟨Int × Int, fun xq => ⟨[(2, U Y), (8, U s), (9, U y1), (10, U y0), (14, U d0), (15, U Q1), (17, U v), (18, U xq.1), (16, U xq.2)], [], 0⟩, fun xq => ((xq.1 * y1 + xq.2 = v ∧ Q0 ≤ xq.1) ∧ xq.1 ≤ 4294967297) ∧ 0 ≤ xq.2 ∧ xq.2 < 4294967296, fun xq => xq.1.toNat, ⟨(_, _), ?_, [], ⟨⟨rfl, rfl⟩, ⟨rfl, rfl⟩, ⟨rfl, rfl⟩, ⟨rfl, rfl⟩, ⟨rfl, rfl⟩, ⟨rfl, rfl⟩, ⟨rfl, rfl⟩, ⟨rfl, rfl⟩, ⟨rfl, rfl⟩, trivial⟩, trivial, rfl, rfl, rfl⟩, ?_⟩
       · (try dsimp only); exact ⟨⟨⟨D2s.2.1.1, D2s.1.1⟩, D2s.1.2⟩, D2s.2.1.2⟩
       rintro ⟨q, r⟩ hk
       obtain ⟨⟨⟨hr, hQq⟩, hq1⟩, r0, r1⟩ : ((q * y1 + r = v ∧ Q0 ≤ q) ∧ q ≤ 4294967297) ∧ 0 ≤ r ∧ r < 4294967296 := hk
       (try dsimp only)
       have hQ := D2.Qa
       have hless : (q - 1) * y1 = q * y1 - y1 := Dg.less
       by_cases hc : 4294967296 ≤ q ∨ 4294967296 * r + d0 < q * y0
       · have hd := D2.down hr hc
         have hr' : (q - 1) * y1 + (r + y1) = v := by omega
         by_cases hbk : 4294967296 ≤ r + y1
         · have he : q - 1 = Q0 := Int.le_antisymm (D2.big hr' hbk (by omega)) hd
           by_cases hqb : 4294967296 ≤ q
           · repeat' ((conv => whnf); first | (refine ⟨fun h => ?_, fun h => ?_⟩ <;> try (exfalso; first | omega | (revert h; decide) | exact h rfl)) | (refine ⟨inR_u64 (by omega) (by omega), ?_⟩) | (rw [he]) | fail)
             repeat' ((conv => whnf); first | (rw [hw2]) | (refine ⟨by omega, ?_⟩; rw [shr_val R rfl s1]) | (refine ⟨inR_u64 (by omega) (by omega), ?_⟩) | fail)
             refine ⟨[], rfl, trivial, ?_⟩
             show leR _ (.tup [U ((hi * 18446744073709551616 + lo) / y), U ((hi * 18446744073709551616 + lo) % y)])
             rw [← hN1, ← hN2]
             exact ⟨rfl, rfl, trivial⟩
           · have hp := D2.prod (q := q) (by omega) (by omega)
             repeat' ((conv => whnf); first | (refine ⟨fun h => ?_, fun h => ?_⟩ <;> try (exfalso; first | omega | (revert h; decide) | exact h rfl)) | (refine ⟨inR_u64 (by omega) (by omega), ?_⟩) | (rw [he]) | fail)
             repeat' ((conv => whnf); first | (rw [hw2]) | (refine ⟨by omega, ?_⟩; rw [shr_val R rfl s1]) | (refine ⟨inR_u64 (by omega) (by omega), ?_⟩) | fail)
             refine ⟨[], rfl, trivial, ?_⟩
             show leR _ (.tup [U ((hi * 18446744073709551616 + lo) / y), U ((hi * 18446744073709551616 + lo) % y)])
             rw [← hN1, ← hN2]
             exact ⟨rfl, rfl, trivial⟩
         · by_cases hqb : 4294967296 ≤ q
           · repeat' ((conv => whnf); first | (refine ⟨fun h => ?_, fun h => ?_⟩ <;> try (exfalso; first | omega | (revert h; decide) | exact h rfl)) | (refine ⟨(_, _), ⟨?_, by (try dsimp only); omega⟩, [], ⟨⟨rfl, rfl⟩, ⟨rfl, rfl⟩, ⟨rfl, rfl⟩, ⟨rfl, rfl⟩, ⟨rfl, rfl⟩, ⟨rfl, rfl⟩, ⟨rfl, rfl⟩, ⟨rfl, rfl⟩, ⟨rfl, rfl⟩, trivial⟩, trivial, rfl, rfl, rfl⟩; (try dsimp only); exact ⟨⟨⟨hr', hd⟩, by omega⟩, by omega, by omega⟩) | (refine ⟨inR_u64 (by omega) (by omega), ?_⟩) | fail)
           · have hp := D2.prod (q := q) (by omega) (by omega)
             repeat' ((conv => whnf); first | (refine ⟨fun h => ?_, fun h => ?_⟩ <;> try (exfalso; first | omega | (revert h; decide) | exact h rfl)) | (refine ⟨(_, _), ⟨?_, by (try dsimp only); omega⟩, [], ⟨⟨rfl, rfl⟩, ⟨rfl, rfl⟩, ⟨rfl, rfl⟩, ⟨rfl, rfl⟩, ⟨rfl, rfl⟩, ⟨rfl, rfl⟩, ⟨rfl, rfl⟩, ⟨rfl, rfl⟩, ⟨rfl, rfl⟩, trivial⟩, trivial, rfl, rfl, rfl⟩; (try dsimp only); exact ⟨⟨⟨hr', hd⟩, by omega⟩, by omega, by omega⟩) | (refine ⟨inR_u64 (by omega) (by omega), ?_⟩) | fail)
       · have hp := D2.prod (q := q) (by omega) (by omega)
         have he : q = Q0 := Int.le_antisymm (D2.up hr (by omega)) hQq
         repeat' ((conv => whnf); first | (refine ⟨fun h => ?_, fun h => ?_⟩ <;> try (exfalso; first | omega | (revert h; decide) | exact h rfl)) | (refine ⟨inR_u64 (by omega) (by omega), ?_⟩) | (rw [he]) | fail)
         repeat' ((conv => whnf); first | (rw [hw2]) | (refine ⟨by omega, ?_⟩; rw [shr_val R rfl s1]) | (refine ⟨inR_u64 (by omega) (by omega), ?_⟩) | fail)
         refine ⟨[], rfl, trivial, ?_⟩
         show leR _ (.tup [U ((hi * 18446744073709551616 + lo) / y), U ((hi * 18446744073709551616 + lo) % y)])
         rw [← hN1, ← hN2]
         exact ⟨rfl, rfl, trivial⟩
     · have hp := D1.prod (q := q) (by omega) (by omega)
       repeat' ((conv => whnf); first | (refine ⟨fun h => ?_, fun h => ?_⟩ <;> try (exfalso; first | omega | (revert h; decide) | exact h rfl)) | (refine ⟨inR_u64 (by omega) (by omega), ?_⟩) | (rw [he]) | fail)
       repeat' ((conv => whnf); first | (rw [hw1]) | (refine ⟨⟨by omega, by rw [t2]; exact inR_u64 (by omega) (by omega)⟩, ?_⟩; rw [t2]) | (refine ⟨inR_u64 (by omega) (by omega), ?_⟩) | fail)
       refine ⟨Int × Int, fun xq => ⟨[(2, U Y), (8, U s), (9, U y1), (10, U y0), (14, U d0), (15, U Q1), (17, U v), (18, U xq.1), (16, U xq.2)], [], 0⟩, fun xq => ((xq.1 * y1 + xq.2 = v ∧ Q0 ≤ xq.1) ∧ xq.1 ≤ 4294967297) ∧ 0 ≤ xq.2 ∧ xq.2 < 4294967296, fun xq => xq.1.toNat, ⟨(_, _), ?_, [], ⟨⟨rfl, rfl⟩, ⟨rfl, rfl⟩, ⟨rfl, rfl⟩, ⟨rfl, rfl⟩, ⟨rfl, rfl⟩, ⟨rfl, rfl⟩, ⟨rfl, rfl⟩, ⟨rfl, rfl⟩, ⟨rfl, rfl⟩, trivial⟩, trivial, rfl, rfl, rfl⟩, ?_⟩
       · (try dsimp only); exact ⟨⟨⟨D2s.2.1.1, D2s.1.1⟩, D2s.1.2⟩, D2s.2.1.2⟩
       rintro ⟨q, r⟩ hk
       obtain ⟨⟨⟨hr, hQq⟩, hq1⟩, r0, r1⟩ : ((q * y1 + r = v ∧ Q0 ≤ q) ∧ q ≤ 4294967297) ∧ 0 ≤ r ∧ r < 4294967296 := hk
       (try dsimp only)
       have hQ := D2.Qa
       have hless : (q - 1) * y1 = q * y1 - y1 := Dg.less
       by_cases hc : 4294967296 ≤ q ∨ 4294967296 * r + d0 < q * y0
       · have hd := D2.down hr hc
         have hr' : (q - 1) * y1 + (r + y1) = v := by omega
         by_cases hbk : 4294967296 ≤ r + y1
         · have he : q - 1 = Q0 := Int.le_antisymm (D2.big hr' hbk (by omega)) hd
           by_cases hqb : 4294967296 ≤ q
           · repeat' ((conv => whnf); first | (refine ⟨fun h => ?_, fun h => ?_⟩ <;> try (exfalso; first | omega | (revert h; decide) | exact h rfl)) | (refine ⟨inR_u64 (by omega) (by omega), ?_⟩) | (rw [he]) | fail)
             repeat' ((conv => whnf); first | (rw [hw2]) | (refine ⟨by omega, ?_⟩; rw [shr_val R rfl s1]) | (refine ⟨inR_u64 (by omega) (by omega), ?_⟩) | fail)
             refine ⟨[], rfl, trivial, ?_⟩
             show leR _ (.tup [U ((hi * 18446744073709551616 + lo) / y), U ((hi * 18446744073709551616 + lo) % y)])
             rw [← hN1, ← hN2]
             exact ⟨rfl, rfl, trivial⟩
           · have hp := D2.prod (q := q) (by omega) (by omega)
             repeat' ((conv => whnf); first | (refine ⟨fun h => ?_, fun h => ?_⟩ <;> try (exfalso; first | omega | (revert h; decide) | exact h rfl)) | (refine ⟨inR_u64 (by omega) (by omega), ?_⟩) | (rw [he]) | fail)
             repeat' ((conv => whnf); first | (rw [hw2]) | (refine ⟨by omega, ?_⟩; rw [shr_val R rfl s1]) | (refine ⟨inR_u64 (by omega) (by omega), ?_⟩) | fail)
             refine ⟨[], rfl, trivial, ?_⟩
             show leR _ (.tup [U ((hi * 18446744073709551616 + lo) / y), U ((hi * 18446744073709551616 + lo) % y)])
             rw [← hN1, ← hN2]
             exact ⟨rfl, rfl, trivial⟩
         · by_cases hqb : 4294967296 ≤ q
           · repeat' ((conv => whnf); first | (refine ⟨fun h => ?_, fun h => ?_⟩ <;> try (exfalso; first | omega | (revert h; decide) | exact h rfl)) | (refine ⟨(_, _), ⟨?_, by (try dsimp only); omega⟩, [], ⟨⟨rfl, rfl⟩, ⟨rfl, rfl⟩, ⟨rfl, rfl⟩, ⟨rfl, rfl⟩, ⟨rfl, rfl⟩, ⟨rfl, rfl⟩, ⟨rfl, rfl⟩, ⟨rfl, rfl⟩, ⟨rfl, rfl⟩, trivial⟩, trivial, rfl, rfl, rfl⟩; (try dsimp only); exact ⟨⟨⟨hr', hd⟩, by omega⟩, by omega, by omega⟩) | (refine ⟨inR_u64 (by omega) (by omega), ?_⟩) | fail)
           · have hp := D2.prod (q := q) (by omega) (by omega)
             repeat' ((conv => whnf); first | (refine ⟨fun h => ?_, fun h => ?_⟩ <;> try (exfalso; first | omega | (revert h; decide) | exact h rfl)) | (refine ⟨(_, _), ⟨?_, by (try dsimp only); omega⟩, [], ⟨⟨rfl, rfl⟩, ⟨rfl, rfl⟩, ⟨rfl, rfl⟩, ⟨rfl, rfl⟩, ⟨rfl, rfl⟩, ⟨rfl, rfl⟩, ⟨rfl, rfl⟩, ⟨rfl, rfl⟩, ⟨rfl, rfl⟩, trivial⟩, trivial, rfl, rfl, rfl⟩; (try dsimp only); exact ⟨⟨⟨hr', hd⟩, by omega⟩, by omega, by omega⟩) | (refine ⟨inR_u64 (by omega) (by omega), ?_⟩) | fail)
       · have hp := D2.prod (q := q) (by omega) (by omega)
         have he : q = Q0 := Int.le_antisymm (D2.up hr (by omega)) hQq
         repeat' ((conv => whnf); first | (refine ⟨fun h => ?_, fun h => ?_⟩ <;> try (exfalso; first | omega | (revert h; decide) | exact h rfl)) | (refine ⟨inR_u64 (by omega) (by omega), ?_⟩) | (rw [he]) | fail)
         repeat' ((conv => whnf); first | (rw [hw2]) | (refine ⟨by omega, ?_⟩; rw [shr_val R rfl s1]) | (refine ⟨inR_u64 (by omega) (by omega), ?_⟩) | fail)
         refine ⟨[], rfl, trivial, ?_⟩
         show leR _ (.tup [U ((hi * 18446744073709551616 + lo) / y), U ((hi * 18446744073709551616 + lo) % y)])
         rw [← hN1, ← hN2]
         exact ⟨rfl, rfl, trivial⟩
   · by_cases hqb : 4294967296 ≤ q
     · repeat' ((conv => whnf); first | (refine ⟨fun h => ?_, fun h => ?_⟩ <;> try (exfalso; first | omega | (revert h; decide) | exact h rfl)) | (refine ⟨(_, _), ⟨?_, by (try dsimp only); omega⟩, [], ⟨⟨rfl, rfl⟩, ⟨rfl, rfl⟩, ⟨rfl, rfl⟩, ⟨rfl, rfl⟩, ⟨rfl, rfl⟩, ⟨rfl, rfl⟩, ⟨rfl, rfl⟩, ⟨rfl, rfl⟩, ⟨rfl, rfl⟩, trivial⟩, trivial, rfl, rfl, rfl⟩; (try dsimp only); exact ⟨⟨⟨hr', hd⟩, by omega⟩, by omega, by omega⟩) | (refine ⟨inR_u64 (by omega) (by omega), ?_⟩) | fail)
     · have hp := D1.prod (q := q) (by omega) (by omega)
       repeat' ((conv => whnf); first | (refine ⟨fun h => ?_, fun h => ?_⟩ <;> try (exfalso; first | omega | (revert h; decide) | exact h rfl)) | (refine ⟨(_, _), ⟨?_, by (try dsimp only); omega⟩, [], ⟨⟨rfl, rfl⟩, ⟨rfl, rfl⟩, ⟨rfl, rfl⟩, ⟨rfl, rfl⟩, ⟨rfl, rfl⟩, ⟨rfl, rfl⟩, ⟨rfl, rfl⟩, ⟨rfl, rfl⟩, ⟨rfl, rfl⟩, trivial⟩, trivial, rfl, rfl, rfl⟩; (try dsimp only); exact ⟨⟨⟨hr', hd⟩, by omega⟩, by omega, by omega⟩) | (refine ⟨inR_u64 (by omega) (by omega), ?_⟩) | fail)
 · have hp := D1.prod (q := q) (by omega) (by omega)
   have he : q = Q1 := Int.le_antisymm (D1.up hr (by omega)) hQq
   repeat' ((conv => whnf); first | (refine ⟨fun h => ?_, fun h => ?_⟩ <;> try (exfalso; first | omega | (revert h; decide) | exact h rfl)) | (refine ⟨inR_u64 (by omega) (by omega), ?_⟩) | (rw [he]) | fail)
   repeat' ((conv => whnf); first | (rw [hw1]) | (refine ⟨⟨by omega, by rw [t2]; exact inR_u64 (by omega) (by omega)⟩, ?_⟩; rw [t2]) | (refine ⟨inR_u64 (by omega) (by omega), ?_⟩) | fail)
   refine ⟨Int × Int, fun xq => ⟨[(2, U Y), (8, U s), (9, U y1), (10, U y0), (14, U d0), (15, U Q1), (17, U v), (18, U xq.1), (16, U xq.2)], [], 0⟩, fun xq => ((xq.1 * y1 + xq.2 = v ∧ Q0 ≤ xq.1) ∧ xq.1 ≤ 4294967297) ∧ 0 ≤ xq.2 ∧ xq.2 < 4294967296, fun xq => xq.1.toNat, ⟨(_, _), ?_, [], ⟨⟨rfl, rfl⟩, ⟨rfl, rfl⟩, ⟨rfl, rfl⟩, ⟨rfl, rfl⟩, ⟨rfl, rfl⟩, ⟨rfl, rfl⟩, ⟨rfl, rfl⟩, ⟨rfl, rfl⟩, ⟨rfl, rfl⟩, trivial⟩, trivial, rfl, rfl, rfl⟩, ?_⟩
   · (try dsimp only); exact ⟨⟨⟨D2s.2.1.1, D2s.1.1⟩, D2s.1.2⟩, D2s.2.1.2⟩
   rintro ⟨q, r⟩ hk
   obtain ⟨⟨⟨hr, hQq⟩, hq1⟩, r0, r1⟩ : ((q * y1 + r = v ∧ Q0 ≤ q) ∧ q ≤ 4294967297) ∧ 0 ≤ r ∧ r < 4294967296 := hk
   (try dsimp only)
   have hQ := D2.Qa
   have hless : (q - 1) * y1 = q * y1 - y1 := Dg.less
   by_cases hc : 4294967296 ≤ q ∨ 4294967296 * r + d0 < q * y0
   · have hd := D2.down hr hc
     have hr' : (q - 1) * y1 + (r + y1) = v := by omega
     by_cases hbk : 4294967296 ≤ r + y1
     · have he : q - 1 = Q0 := Int.le_antisymm (D2.big hr' hbk (by omega)) hd
       by_cases hqb : 4294967296 ≤ q
       · repeat' ((conv => whnf); first | (refine ⟨fun h => ?_, fun h => ?_⟩ <;> try (exfalso; first | omega | (revert h; decide) | exact h rfl)) | (refine ⟨inR_u64 (by omega) (by omega), ?_⟩) | (rw [he]) | fail)
         repeat' ((conv => whnf); first | (rw [hw2]) | (refine ⟨by omega, ?_⟩; rw [shr_val R rfl s1]) | (refine ⟨inR_u64 (by omega) (by omega), ?_⟩) | fail)
         refine ⟨[], rfl, trivial, ?_⟩
         show leR _ (.tup [U ((hi * 18446744073709551616 + lo) / y), U ((hi * 18446744073709551616 + lo) % y)])
         rw [← hN1, ← hN2]
         exact ⟨rfl, rfl, trivial⟩
       · have hp := D2.prod (q := q) (by omega) (by omega)
         repeat' ((conv => whnf); first | (refine ⟨fun h => ?_, fun h => ?_⟩ <;> try (exfalso; first | omega | (revert h; decide) | exact h rfl)) | (refine ⟨inR_u64 (by omega) (by omega), ?_⟩) | (rw [he]) | fail)
         repeat' ((conv => whnf); first | (rw [hw2]) | (refine ⟨by omega, ?_⟩; rw [shr_val R rfl s1]) | (refine ⟨inR_u64 (by omega) (by omega), ?_⟩) | fail)
         refine ⟨[], rfl, trivial, ?_⟩
         show leR _ (.tup [U ((hi * 18446744073709551616 + lo) / y), U ((hi * 18446744073709551616 + lo) % y)])
         rw [← hN1, ← hN2]
         exact ⟨rfl, rfl, trivial⟩
     · by_cases hqb : 4294967296 ≤ q
       · repeat' ((conv => whnf); first | (refine ⟨fun h => ?_, fun h => ?_⟩ <;> try (exfalso; first | omega | (revert h; decide) | exact h rfl)) | (refine ⟨(_, _), ⟨?_, by (try dsimp only); omega⟩, [], ⟨⟨rfl, rfl⟩, ⟨rfl, rfl⟩, ⟨rfl, rfl⟩, ⟨rfl, rfl⟩, ⟨rfl, rfl⟩, ⟨rfl, rfl⟩, ⟨rfl, rfl⟩, ⟨rfl, rfl⟩, ⟨rfl, rfl⟩, trivial⟩, trivial, rfl, rfl, rfl⟩; (try dsimp only); exact ⟨⟨⟨hr', hd⟩, by omega⟩, by omega, by omega⟩) | (refine ⟨inR_u64 (by omega) (by omega), ?_⟩) | fail)
       · have hp := D2.prod (q := q) (by omega) (by omega)
         repeat' ((conv => whnf); first | (refine ⟨fun h => ?_, fun h => ?_⟩ <;> try (exfalso; first | omega | (revert h; decide) | exact h rfl)) | (refine ⟨(_, _), ⟨?_, by (try dsimp only); omega⟩, [], ⟨⟨rfl, rfl⟩, ⟨rfl, rfl⟩, ⟨rfl, rfl⟩, ⟨rfl, rfl⟩, ⟨rfl, rfl⟩, ⟨rfl, rfl⟩, ⟨rfl, rfl⟩, ⟨rfl, rfl⟩, ⟨rfl, rfl⟩, trivial⟩, trivial, rfl, rfl, rfl⟩; (try dsimp only); exact ⟨⟨⟨hr', hd⟩, by omega⟩, by omega, by omega⟩) | (refine ⟨inR_u64 (by omega) (by omega), ?_⟩) | fail)
   · have hp := D2.prod (q := q) (by omega) (by omega)
     have he : q = Q0 := Int.le_antisymm (D2.up hr (by omega)) hQq
     repeat' ((conv => whnf); first | (refine ⟨fun h => ?_, fun h => ?_⟩ <;> try (exfalso; first | omega | (revert h; decide) | exact h rfl)) | (refine ⟨inR_u64 (by omega) (by omega), ?_⟩) | (rw [he]) | fail)
     repeat' ((conv => whnf); first | (rw [hw2]) | (refine ⟨by omega, ?_⟩; rw [shr_val R rfl s1]) | (refine ⟨inR_u64 (by omega) (by omega), ?_⟩) | fail)
     refine ⟨[], rfl, trivial, ?_⟩
     show leR _ (.tup [U ((hi * 18446744073709551616 + lo) / y), U ((hi * 18446744073709551616 + lo) % y)])
     rw [← hN1, ← hN2]
     exact ⟨rfl, rfl, trivial⟩
theorem div_h : Holds Tryz.prog 78 divS := holds_of mix Tryz.func78 divLow (fun _ => rfl) divV
end Go.Proofs.YtjpdaapjnpdiiaaGreat
namespace Go.Proofs.YtjpdaapjnpdiiaaGreat
open Go.RowKit
theorem sum_take {l : List Int} {k : Nat} {x : Int} (h : l[k]? = some x) : (l.take (k + 1)).sum = (l.take k).sum + x := by
 rw [take_snoc l k x h, List.sum_append]; simp
def upTo (l : List Int) (n k : Nat) : List Int := l.take k ++ List.replicate (n - k) 0
theorem upTo_len {l : List Int} {n k : Nat} (h : k ≤ n) (hl : l.length = n) : (upTo l n k).length = n := by
 rw [upTo, List.length_append, List.length_take, List.length_replicate]; omega
theorem upTo_set {l : List Int} {n k : Nat} {x : Int} (h : l[k]? = some x) (hl : l.length = n) : (upTo l n k).set k x = upTo l n (k + 1) := by
 have hk := (List.getElem?_eq_some_iff.1 h).1
 obtain ⟨m, hm⟩ : ∃ m, n - k = m + 1 := ⟨n - k - 1, by omega⟩
 have h1 : (l.take k).length = k := by rw [List.length_take]; omega
 rw [upTo, upTo, take_snoc l k x h, hm, show n - (k + 1) = m by omega, List.replicate_succ, List.set_append_right _ _ (by omega), h1, Nat.sub_self, List.set_cons_zero, List.append_assoc]
 rfl
theorem upTo_get {l : List Int} {n k : Nat} {x : Int} (h : l[k]? = some x) (hl : l.length = n) : (upTo l n k)[k]? = some 0 := by
 have hk := (List.getElem?_eq_some_iff.1 h).1
 obtain ⟨m, hm⟩ : ∃ m, n - k = m + 1 := ⟨n - k - 1, by omega⟩
 have h1 : (l.take k).length = k := by rw [List.length_take]; omega
 rw [upTo, List.getElem?_append_right (by omega), h1, Nat.sub_self, hm, List.replicate_succ]; rfl
theorem upTo_end {l : List Int} {n : Nat} (hl : l.length = n) : upTo l n n = l := by subst hl; simp [upTo]
theorem upTo_start (l : List Int) (n : Nat) : upTo l n 0 = List.replicate n 0 := by simp [upTo]
def qL (a : Int) (ws : List Int) : List Int := ws.map fun w => a * w / ws.sum
def rL (a : Int) (ws : List Int) : List Int := ws.map fun w => a * w % ws.sum
def leftN (a : Int) (ws : List Int) : Nat := (a - (qL a ws).sum).toNat
def idxL (n : Nat) : List Int := (List.range n).map fun i : Nat => (i : Int)
def befB (f : Int → Int) (x y : Int) : Bool := decide (bef f x y ∨ x = y)
def ordL (rs : List Int) : List Int := (idxL rs.length).mergeSort (befB (keyR rs))
theorem idxL_len (n : Nat) : (idxL n).length = n := by simp [idxL]
theorem idxL_get {n i : Nat} (h : i < n) : (idxL n)[i]? = some (i : Int) := by
 rw [idxL, List.getElem?_map, List.getElem?_range h]; rfl
theorem idxL_mem {n : Nat} {x : Int} : x ∈ idxL n ↔ ∃ i : Nat, i < n ∧ x = i := by
 simp only [idxL, List.mem_map, List.mem_range]
 exact ⟨fun ⟨i, h, e⟩ => ⟨i, h, e.symm⟩, fun ⟨i, h, e⟩ => ⟨i, h, e.symm⟩⟩
theorem idxL_lt (n : Nat) : (idxL n).Pairwise (· < ·) := by
 rw [idxL, List.pairwise_map]
 exact List.pairwise_lt_range.imp fun h => Int.ofNat_lt.2 h
theorem idxL_stb (f : Int → Int) (n : Nat) : (idxL n).Pairwise (stb f) := (idxL_lt n).imp fun {a b} (h : a < b) => (show stb f a b from fun _ => h)
theorem idxL_nodup (n : Nat) : (idxL n).Nodup := (idxL_lt n).imp fun h => by omega
theorem ordL_sorted (rs : List Int) : SortedOf (keyR rs) (idxL rs.length) (ordL rs) := by
 have hp : (ordL rs).Perm (idxL rs.length) := List.mergeSort_perm _ _
 refine ⟨hp, ?_⟩
 have h1 : (ordL rs).Pairwise fun x y => befB (keyR rs) x y = true := List.pairwise_mergeSort
   (fun a b c h1 h2 => by
     simp only [befB, decide_eq_true_eq] at *
     rcases h1 with h1 | rfl
     · rcases h2 with h2 | rfl
       · exact .inl (bef_trans h1 h2)
       · exact .inl h1
     · exact h2)
   (fun a b => by
     simp only [befB, Bool.or_eq_true, decide_eq_true_eq]
     by_cases e : a = b
     · exact .inl (.inr e)
     · rcases bef_total (f := keyR rs) e with h | h
       · exact .inl (.inl h)
       · exact .inr (.inl h)) _
 have h2 : (ordL rs).Nodup := hp.nodup_iff.2 (idxL_nodup _)
 refine (h1.and h2).imp fun {a b} h => ?_
 have := h.1
 simp only [befB, decide_eq_true_eq] at this
 rcases this with h' | e
 · exact h'
 · exact absurd e h.2
theorem ordL_len (rs : List Int) : (ordL rs).length = rs.length := by rw [(ordL_sorted rs).1.length_eq, idxL_len]
theorem ordL_mem {rs : List Int} {x : Int} (h : x ∈ ordL rs) : ∃ i : Nat, i < rs.length ∧ x = i := idxL_mem.1 ((ordL_sorted rs).1.mem_iff.1 h)
theorem ordL_nodup (rs : List Int) : (ordL rs).Nodup := (ordL_sorted rs).1.nodup_iff.2 (idxL_nodup _)
def incr (l : List Int) (i : Int) : List Int := l.set i.toNat (l.getD i.toNat 0 + 1)
def incs (l is : List Int) : List Int := is.foldl incr l
theorem incr_len (l : List Int) (i : Int) : (incr l i).length = l.length := List.length_set
theorem incs_len : ∀ (is l : List Int), (incs l is).length = l.length
 | [], _ => rfl
 | i :: r, l => (incs_len r (incr l i)).trans (incr_len l i)
theorem incs_snoc (l is : List Int) (i : Int) : incs l (is ++ [i]) = incr (incs l is) i := by simp [incs]
theorem set_sum : ∀ (l : List Int) (k : Nat) (x : Int), l[k]? = some x → (l.set k (x + 1)).sum = l.sum + 1
 | [], k, x, h => by simp at h
 | y :: r, 0, x, h => by simp at h; subst h; simp only [List.set_cons_zero, List.sum_cons]; omega
 | y :: r, k + 1, x, h => by
   have := set_sum r k x (by simpa using h)
   simp only [List.set_cons_succ, List.sum_cons]; omega
theorem incs_sum : ∀ (is l : List Int), (∀ i ∈ is, ∃ k : Nat, k < l.length ∧ i = k) → (incs l is).sum = l.sum + is.length
 | [], l, _ => by simp [incs]
 | i :: r, l, h => by
   obtain ⟨k, hk, rfl⟩ := h i (by simp)
   obtain ⟨x, hx⟩ := getElem_some hk
   have h1 : incr l k = l.set k (x + 1) := by rw [incr, Int.toNat_natCast, List.getD, hx]; rfl
   show (incs (incr l k) r).sum = _
   rw [incs_sum r _ fun j hj => by rw [incr_len]; exact h j (by simp [hj]), h1, set_sum l k x hx, List.length_cons]
   omega
theorem incs_get : ∀ (is l : List Int) (j : Nat) (x : Int), is.Nodup → (∀ i ∈ is, 0 ≤ i) → l[j]? = some x → (incs l is)[j]? = some (x + if (j : Int) ∈ is then 1 else 0)
 | [], l, j, x, _, _, h => by simp [incs, h]
 | i :: r, l, j, x, hn, h0, h => by
   obtain ⟨h1, h2⟩ := List.nodup_cons.1 hn
   have hj := (List.getElem?_eq_some_iff.1 h).1
   have hi := h0 i (by simp)
   show (incs (incr l i) r)[j]? = _
   by_cases e : i = j
   · subst e
     have hs : (incr l (j : Int))[j]? = some (x + 1) := by
       rw [incr, Int.toNat_natCast, List.getElem?_set_self hj, List.getD, h]; rfl
     rw [incs_get r _ j _ h2 (fun i hi => h0 i (by simp [hi])) hs, if_neg h1, if_pos (by simp), Int.add_zero]
   · have hs : (incr l i)[j]? = some x := by rw [incr, List.getElem?_set_ne (by omega)]; exact h
     rw [incs_get r _ j _ h2 (fun i hi => h0 i (by simp [hi])) hs]
     congr 2
     by_cases hm : (j : Int) ∈ r
     · rw [if_pos hm, if_pos (by simp [hm])]
     · rw [if_neg hm, if_neg (by simp [hm]; omega)]
def partsL (a : Int) (ws : List Int) : List Int := incs (qL a ws) ((ordL (rL a ws)).take (leftN a ws))
theorem qL_len (a : Int) (ws : List Int) : (qL a ws).length = ws.length := by simp [qL]
theorem rL_len (a : Int) (ws : List Int) : (rL a ws).length = ws.length := by simp [rL]
theorem partsL_len (a : Int) (ws : List Int) : (partsL a ws).length = ws.length := by rw [partsL, incs_len, qL_len]
theorem qr_sum (a s : Int) : ∀ l : List Int, (l.map fun w => a * w / s).sum * s + (l.map fun w => a * w % s).sum = a * l.sum
 | [] => by simp
 | w :: r => by
   have h := qr_sum a s r
   have hm := Int.mul_ediv_add_emod (a * w) s
   rw [Int.mul_comm] at hm
   simp only [List.map_cons, List.sum_cons, Int.add_mul, Int.mul_add]
   omega
theorem sum_nn : ∀ {l : List Int} {s : Int}, (∀ x ∈ l, 0 ≤ x ∧ x < s) → 0 ≤ l.sum ∧ l.sum ≤ (s - 1) * l.length
 | [], s, _ => by simp
 | x :: r, s, h => by
   have h1 := sum_nn (l := r) fun y hy => h y (by simp [hy])
   have h2 := h x (by simp)
   simp only [List.sum_cons, List.length_cons, Int.natCast_add, Int.mul_add]
   omega
theorem rL_sum (a : Int) (ws : List Int) : (rL a ws).sum = (a - (qL a ws).sum) * ws.sum := by
 have h : (qL a ws).sum * ws.sum + (rL a ws).sum = a * ws.sum := qr_sum a ws.sum ws
 rw [Int.sub_mul]; omega
structure Good (a : Int) (ws : List Int) : Prop where
 len : ws.length ≤ 64
 a0 : 0 ≤ a
 a1 : a ≤ 1099511627776
 wOk : ∀ w ∈ ws, 0 ≤ w ∧ w ≤ 1000000000
 s0 : 0 < ws.sum
 s1 : ws.sum ≤ 64000000000
theorem le_sum : ∀ {l : List Int}, (∀ w ∈ l, 0 ≤ w) → ∀ w ∈ l, w ≤ l.sum
 | [], _, w, hw => by simp at hw
 | x :: r, h, w, hw => by
   have h1 : 0 ≤ r.sum := by
     clear hw
     have : ∀ l : List Int, (∀ w ∈ l, 0 ≤ w) → 0 ≤ l.sum := by
       intro l
       induction l with
       | nil => intro _; simp
       | cons y t ih => intro h; have := ih fun z hz => h z (by simp [hz]); have := h y (by simp); simp only [List.sum_cons]; omega
     exact this r fun z hz => h z (by simp [hz])
   have h2 := h x (by simp)
   simp only [List.sum_cons]
   rcases List.mem_cons.1 hw with rfl | hw
   · omega
   · have := le_sum (l := r) (fun z hz => h z (by simp [hz])) w hw; omega
section
variable {a : Int} {ws : List Int} (g : Good a ws)
include g
theorem Good.q {w : Int} (hw : w ∈ ws) : 0 ≤ a * w / ws.sum ∧ a * w / ws.sum ≤ a := by
 obtain ⟨h1, h2⟩ := g.wOk w hw
 have h3 := le_sum (fun w hw => (g.wOk w hw).1) w hw
 have := g.s0
 refine ⟨Int.ediv_nonneg (Int.mul_nonneg g.a0 h1) (by omega), ?_⟩
 exact Int.ediv_le_of_le_mul g.s0 (Int.mul_le_mul_of_nonneg_left h3 g.a0)
theorem Good.r (w : Int) : 0 ≤ a * w % ws.sum ∧ a * w % ws.sum < ws.sum := by
 have := g.s0
 exact ⟨Int.emod_nonneg _ (by omega), Int.emod_lt_of_pos _ g.s0⟩
theorem Good.left : (leftN a ws : Int) = a - (qL a ws).sum ∧ leftN a ws < ws.length := by
 have h := rL_sum a ws
 have hs := g.s0
 obtain ⟨h1, h2⟩ := sum_nn (l := rL a ws) (s := ws.sum) (by
   intro x hx
   obtain ⟨w, _, rfl⟩ := List.mem_map.1 hx
   exact g.r w)
 rw [rL_len] at h2
 have hn : 0 < ws.length := by
   cases hw : ws with
   | nil => rw [hw] at hs; simp at hs
   | cons _ _ => simp
 have h3 : 0 ≤ a - (qL a ws).sum := by
   rw [h] at h1
   exact Int.le_of_mul_le_mul_right (a := ws.sum) (by rw [Int.zero_mul]; exact h1) hs
 have h4 : (a - (qL a ws).sum) * ws.sum < ws.length * ws.sum := by
   rw [← h]
   refine Int.lt_of_le_of_lt h2 ?_
   rw [Int.sub_mul, Int.one_mul, Int.mul_comm ws.sum]
   omega
 have h5 := Int.lt_of_mul_lt_mul_right h4 (Int.le_of_lt hs)
 unfold leftN
 omega
theorem Good.sum : (partsL a ws).sum = a := by
 obtain ⟨h1, h2⟩ := g.left
 rw [partsL, incs_sum _ _ fun i hi => by rw [qL_len, ← rL_len a ws]; exact ordL_mem (List.mem_of_mem_take hi), List.length_take, ordL_len, rL_len]
 omega
end
end Go.Proofs.YtjpdaapjnpdiiaaGreat
namespace Go.Proofs.YtjpdaapjnpdiiaaGreat
open Go.RowKit
def exactIr : IFn := ⟨32, [.tmp 6, .tmp 7], (zq [ zl 6 .mov [zi 0], zl 7 .mov [zi 0]] (zq [ zm 13 0, zo 14 (.conv .u64) [13], zm 15 1, zo 16 (.conv .u64) [15], zo 17 (.call 77) [14, 16], zm 12 17, zo 18 (.extract 0) [12], zo 19 (.extract 1) [12], zm 8 18, zm 9 19] (zq [ zm 21 8, zm 22 9, zm 23 2, zo 24 (.conv .u64) [23], zo 25 (.call 78) [21, 22, 24], zm 20 25, zo 26 (.extract 0) [20], zo 27 (.extract 1) [20], zm 10 26, zm 11 27] (zq [ zm 28 10, zo 29 (.conv .i64) [28], zm 30 11, zo 31 (.conv .i64) [30], zm 6 29, zm 7 31] .ret))))⟩
theorem exactLow : lowF Tryz.prog {} Tryz.f47 = some exactIr := by kernel_rfl
def exactS : Spec := spec (Int × Int × Int) (fun p => [I p.1, I p.2.1, I p.2.2]) (fun p => (0 ≤ p.1 ∧ p.1 ≤ 1099511627776) ∧ (0 ≤ p.2.1 ∧ p.2.1 ≤ 1000000000) ∧ (1 ≤ p.2.2 ∧ p.2.2 ≤ 64000000000) ∧ p.2.1 ≤ p.2.2) (fun p => .tup [I (p.1 * p.2.1 / p.2.2), I (p.1 * p.2.1 % p.2.2)])
theorem exactV : fnV Tryz.prog exactIr exactS := by
 intro ⟨(a : Int), (w : Int), (s : Int)⟩ hx
 obtain ⟨⟨a0, a1⟩, ⟨w0, w1⟩, ⟨s0, s1⟩, hws⟩ : (0 ≤ a ∧ a ≤ 1099511627776) ∧ (0 ≤ w ∧ w ≤ 1000000000) ∧ (1 ≤ s ∧ s ≤ 64000000000) ∧ w ≤ s := hx
 have p0 : 0 ≤ a * w := Int.mul_nonneg a0 w0
 have p1 : a * w ≤ 1099511627776 * w := Int.mul_le_mul_of_nonneg_right a1 w0
 have p2 : a * w ≤ a * s := Int.mul_le_mul_of_nonneg_left hws a0
 have q0 : 0 ≤ a * w / s := Int.ediv_nonneg p0 (by omega)
 have q1 : a * w / s ≤ a := Int.ediv_le_of_le_mul (by omega) p2
 have r0 : 0 ≤ a * w % s := Int.emod_nonneg _ (by omega)
 have r1 : a * w % s < s := Int.emod_lt_of_pos _ (by omega)
 have hm : a * w / 18446744073709551616 * 18446744073709551616 + a * w % 18446744073709551616 = a * w := by omega
 show vc _ _ _ _ ⟨argEnv 0 [I a, I w, I s], [], 0⟩
 repeat' ((conv => whnf); first | (refine ⟨_, mul_h, (a, w), ⟨⟨a0, a1⟩, w0, w1⟩, leVs_of_eq rfl, .inl rfl, rfl, ?_⟩; show norm (.tup [U (a * w / 18446744073709551616), U (a * w % 18446744073709551616)]) _) | (refine ⟨_, div_h, (a * w / 18446744073709551616, a * w % 18446744073709551616, s), (by show ((0 ≤ a * w / 18446744073709551616 ∧ a * w / 18446744073709551616 < s) ∧ s < 68719476736) ∧ 0 ≤ a * w % 18446744073709551616 ∧ a * w % 18446744073709551616 < 18446744073709551616; omega), leVs_of_eq rfl, .inl rfl, rfl, ?_⟩; show norm (.tup [U ((a * w / 18446744073709551616 * 18446744073709551616 + a * w % 18446744073709551616) / s), U ((a * w / 18446744073709551616 * 18446744073709551616 + a * w % 18446744073709551616) % s)]) _; rw [hm]) | (refine ⟨inR_u64 (by omega) (by omega), ?_⟩) | refine ⟨⟨by omega, by omega⟩, ?_⟩ | fail)
 exact ⟨[], rfl, trivial, ⟨rfl, rfl, trivial⟩⟩
theorem exact_h : Holds Tryz.prog 47 exactS := holds_of mix Tryz.func47 exactLow (fun _ => rfl) exactV
def totalIr : IFn := ⟨14, [.tmp 2, .tmp 3], (zq [ zl 2 .mov [zi 0], zl 3 .mov [zi 0]] (zq [ zm 7 0, zl 8 (.call 28) [.tmp 7, .func 29], zm 6 8, zo 9 (.extract 0) [6], zo 10 (.extract 1) [6], zm 4 9, zm 5 10] (.seq (zq [ zm 11 5, zo 12 .not [11]] (.cond (.tmp 12) (zq [ zl 2 .mov [zi 0], zl 3 .mov [zi 12]] .ret) .skip)) (zq [ zm 13 4, zm 2 13, zl 3 .mov [zi 0]] .ret))))⟩
theorem totalLow : lowF Tryz.prog {} Tryz.f11 = some totalIr := by kernel_rfl
def totalS : Spec := spec (List Share) (fun l => [L 2 (l.map encS)]) (fun l => l.length ≤ 1000000) (fun l => totT (runO 0 (l.map fun x : Share => x.a)))
theorem totalV : fnV Tryz.prog totalIr totalS := by
 intro (l : List Share) hx
 replace hx : l.length ≤ 1000000 := hx
 show vc _ _ _ _ ⟨argEnv 0 [L 2 (l.map encS)], [], 0⟩
 cases hr : runO 0 (l.map fun x : Share => x.a) with
 | none =>
   repeat' ((conv => whnf); first | (refine ⟨fun h => ?_, fun h => ?_⟩ <;> try (exfalso; first | omega | (revert h; decide) | exact h rfl)) | (refine ⟨_, runS_h, l, hx, leVs_of_eq rfl, .inl rfl, rfl, ?_⟩; show norm (optT (runO 0 (l.map fun x : Share => x.a))) _; rw [hr]) | fail)
   all_goals (refine ⟨[], rfl, trivial, ?_⟩; show leR _ (totT (runO 0 (l.map fun x : Share => x.a))); rw [hr]; exact ⟨rfl, rfl, trivial⟩)
 | some v =>
   repeat' ((conv => whnf); first | (refine ⟨fun h => ?_, fun h => ?_⟩ <;> try (exfalso; first | omega | (revert h; decide) | exact h rfl)) | (refine ⟨_, runS_h, l, hx, leVs_of_eq rfl, .inl rfl, rfl, ?_⟩; show norm (optT (runO 0 (l.map fun x : Share => x.a))) _; rw [hr]) | fail)
   all_goals (refine ⟨[], rfl, trivial, ?_⟩; show leR _ (totT (runO 0 (l.map fun x : Share => x.a))); rw [hr]; exact ⟨rfl, rfl, trivial⟩)
theorem total_h : Holds Tryz.prog 11 totalS := holds_of mix Tryz.func11 totalLow (fun _ => rfl) totalV
end Go.Proofs.YtjpdaapjnpdiiaaGreat
namespace Go.Proofs.YtjpdaapjnpdiiaaGreat
open Go.RowKit
theorem good_of {a : Int} {ws : List Int} (h : chkF a ws = 0) : Good a ws := by
 unfold chkF at h
 split at h
 · omega
 split at h
 · omega
 split at h
 · rename_i h1 h2 h3
   split at h
   · omega
   rename_i h4
   obtain ⟨t0, t1⟩ := sum_ok h3
   exact ⟨by omega, by omega, by omega, h3, by omega, by omega⟩
 · omega
end Go.Proofs.YtjpdaapjnpdiiaaGreat
