/- Split: math/bits.Div64. -/
import Derived.Test.YtepacknnggnifaaFG
namespace Go.Proofs.Ytepacknnggnifaa
open Go.RowKit

/-! math/bits.Div64 -/
def divIr : IFn := ⟨135, [.tmp 6, .tmp 7],
  (.seq (.ops [
    ⟨(some 6), .mov, [.const (.int .u64 0)], none⟩,
    ⟨(some 7), .mov, [.const (.int .u64 0)], none⟩] false)
  (.seq (.seq (.ops [
    ⟨(some 19), .mov, [.tmp 2], none⟩,
    ⟨(some 20), .cmp .eql, [.tmp 19, .const (.int .u64 0)], none⟩] false)
  (.cond (.tmp 20)
    (.ops [
      ⟨(some 21), .load 1 false, [.global 0], none⟩,
      ⟨none, .bad, [], none⟩] false)
    .skip))
  (.seq (.seq (.ops [
    ⟨(some 22), .mov, [.tmp 2], none⟩,
    ⟨(some 23), .mov, [.tmp 0], none⟩,
    ⟨(some 24), .cmp .leq, [.tmp 22, .tmp 23], none⟩] false)
  (.cond (.tmp 24)
    (.ops [
      ⟨(some 25), .load 1 false, [.global 1], none⟩,
      ⟨none, .bad, [], none⟩] false)
    .skip))
  (.seq (.seq (.ops [
    ⟨(some 26), .mov, [.tmp 0], none⟩,
    ⟨(some 27), .cmp .eql, [.tmp 26, .const (.int .u64 0)], none⟩] false)
  (.cond (.tmp 27)
    (.seq (.ops [
      ⟨(some 28), .mov, [.tmp 1], none⟩,
      ⟨(some 29), .mov, [.tmp 2], none⟩,
      ⟨(some 30), .bin .quo .u64 false, [.tmp 28, .tmp 29], none⟩,
      ⟨(some 31), .mov, [.tmp 1], none⟩,
      ⟨(some 32), .mov, [.tmp 2], none⟩,
      ⟨(some 33), .bin .rem .u64 false, [.tmp 31, .tmp 32], none⟩,
      ⟨(some 6), .mov, [.tmp 30], none⟩,
      ⟨(some 7), .mov, [.tmp 33], none⟩] true)
    .ret)
    .skip))
  (.seq (.ops [
    ⟨(some 34), .mov, [.tmp 2], none⟩,
    ⟨(some 35), .call 45, [.tmp 34], none⟩,
    ⟨(some 36), .conv .u64, [.tmp 35], none⟩,
    ⟨(some 8), .mov, [.tmp 36], none⟩] false)
  (.seq (.ops [
    ⟨(some 37), .mov, [.tmp 2], none⟩,
    ⟨(some 38), .mov, [.tmp 8], none⟩,
    ⟨(some 39), .bin .shl .u64 false, [.tmp 37, .tmp 38], none⟩,
    ⟨(some 2), .mov, [.tmp 39], none⟩] false)
  (.seq (.ops [
    ⟨(some 40), .mov, [.tmp 2], none⟩,
    ⟨(some 41), .bin .shr .u64 false, [.tmp 40, .const (.int .u64 32)], none⟩,
    ⟨(some 9), .mov, [.tmp 41], none⟩] false)
  (.seq (.ops [
    ⟨(some 42), .mov, [.tmp 2], none⟩,
    ⟨(some 43), .bin .and .u64 false, [.tmp 42, .const (.int .u64 4294967295)], none⟩,
    ⟨(some 10), .mov, [.tmp 43], none⟩] false)
  (.seq (.ops [
    ⟨(some 44), .mov, [.tmp 0], none⟩,
    ⟨(some 45), .mov, [.tmp 8], none⟩,
    ⟨(some 46), .bin .shl .u64 false, [.tmp 44, .tmp 45], none⟩,
    ⟨(some 47), .mov, [.tmp 1], none⟩,
    ⟨(some 48), .mov, [.tmp 8], none⟩,
    ⟨(some 49), .bin .sub .u64 false, [.const (.int .u64 64), .tmp 48], none⟩,
    ⟨(some 50), .bin .shr .u64 false, [.tmp 47, .tmp 49], none⟩,
    ⟨(some 51), .bin .or .u64 false, [.tmp 46, .tmp 50], none⟩,
    ⟨(some 11), .mov, [.tmp 51], none⟩] false)
  (.seq (.ops [
    ⟨(some 52), .mov, [.tmp 1], none⟩,
    ⟨(some 53), .mov, [.tmp 8], none⟩,
    ⟨(some 54), .bin .shl .u64 false, [.tmp 52, .tmp 53], none⟩,
    ⟨(some 12), .mov, [.tmp 54], none⟩] false)
  (.seq (.ops [
    ⟨(some 55), .mov, [.tmp 12], none⟩,
    ⟨(some 56), .bin .shr .u64 false, [.tmp 55, .const (.int .u64 32)], none⟩,
    ⟨(some 13), .mov, [.tmp 56], none⟩] false)
  (.seq (.ops [
    ⟨(some 57), .mov, [.tmp 12], none⟩,
    ⟨(some 58), .bin .and .u64 false, [.tmp 57, .const (.int .u64 4294967295)], none⟩,
    ⟨(some 14), .mov, [.tmp 58], none⟩] false)
  (.seq (.ops [
    ⟨(some 59), .mov, [.tmp 11], none⟩,
    ⟨(some 60), .mov, [.tmp 9], none⟩,
    ⟨(some 61), .bin .quo .u64 false, [.tmp 59, .tmp 60], none⟩,
    ⟨(some 15), .mov, [.tmp 61], none⟩] false)
  (.seq (.ops [
    ⟨(some 62), .mov, [.tmp 11], none⟩,
    ⟨(some 63), .mov, [.tmp 15], none⟩,
    ⟨(some 64), .mov, [.tmp 9], none⟩,
    ⟨(some 65), .bin .mul .u64 false, [.tmp 63, .tmp 64], none⟩,
    ⟨(some 66), .bin .sub .u64 false, [.tmp 62, .tmp 65], none⟩,
    ⟨(some 16), .mov, [.tmp 66], none⟩] false)
  (.seq (.block 0
    (.loop
      (.seq (.seq (.ops [
        ⟨(some 67), .mov, [.tmp 15], none⟩,
        ⟨(some 68), .cmp .geq, [.tmp 67, .const (.int .u64 4294967296)], none⟩,
        ⟨(some 69), .mov, [.tmp 68], none⟩,
        ⟨(some 70), .mov, [.tmp 15], (some (69, false))⟩,
        ⟨(some 71), .mov, [.tmp 10], (some (69, false))⟩,
        ⟨(some 72), .bin .mul .u64 false, [.tmp 70, .tmp 71], (some (69, false))⟩,
        ⟨(some 73), .mov, [.tmp 16], (some (69, false))⟩,
        ⟨(some 74), .bin .mul .u64 false, [.const (.int .u64 4294967296), .tmp 73], (some (69, false))⟩,
        ⟨(some 75), .mov, [.tmp 13], (some (69, false))⟩,
        ⟨(some 76), .bin .add .u64 false, [.tmp 74, .tmp 75], (some (69, false))⟩,
        ⟨(some 77), .cmp .gtr, [.tmp 72, .tmp 76], (some (69, false))⟩,
        ⟨(some 78), .pick, [.tmp 69, .const (.bool true), .tmp 77], none⟩] false)
      (.cond (.tmp 78)
        .skip
        (.exit 0)))
      (.block 1
        (.seq (.ops [
          ⟨(some 79), .mov, [.tmp 15], none⟩,
          ⟨(some 80), .bin .sub .u64 false, [.tmp 79, .const (.int .u64 1)], none⟩,
          ⟨(some 15), .mov, [.tmp 80], none⟩] false)
        (.seq (.ops [
          ⟨(some 81), .mov, [.tmp 16], none⟩,
          ⟨(some 82), .mov, [.tmp 9], none⟩,
          ⟨(some 83), .bin .add .u64 false, [.tmp 81, .tmp 82], none⟩,
          ⟨(some 16), .mov, [.tmp 83], none⟩] false)
        (.seq (.ops [
          ⟨(some 84), .mov, [.tmp 16], none⟩,
          ⟨(some 85), .cmp .geq, [.tmp 84, .const (.int .u64 4294967296)], none⟩] false)
        (.cond (.tmp 85)
          (.exit 0)
          .skip))))))))
  (.seq (.ops [
    ⟨(some 86), .mov, [.tmp 11], none⟩,
    ⟨(some 87), .bin .mul .u64 true, [.tmp 86, .const (.int .u64 4294967296)], none⟩,
    ⟨(some 88), .mov, [.tmp 13], none⟩,
    ⟨(some 89), .bin .add .u64 true, [.tmp 87, .tmp 88], none⟩,
    ⟨(some 90), .mov, [.tmp 15], none⟩,
    ⟨(some 91), .mov, [.tmp 2], none⟩,
    ⟨(some 92), .bin .mul .u64 true, [.tmp 90, .tmp 91], none⟩,
    ⟨(some 93), .bin .sub .u64 true, [.tmp 89, .tmp 92], none⟩,
    ⟨(some 17), .mov, [.tmp 93], none⟩] false)
  (.seq (.ops [
    ⟨(some 94), .mov, [.tmp 17], none⟩,
    ⟨(some 95), .mov, [.tmp 9], none⟩,
    ⟨(some 96), .bin .quo .u64 false, [.tmp 94, .tmp 95], none⟩,
    ⟨(some 18), .mov, [.tmp 96], none⟩] false)
  (.seq (.ops [
    ⟨(some 97), .mov, [.tmp 17], none⟩,
    ⟨(some 98), .mov, [.tmp 18], none⟩,
    ⟨(some 99), .mov, [.tmp 9], none⟩,
    ⟨(some 100), .bin .mul .u64 false, [.tmp 98, .tmp 99], none⟩,
    ⟨(some 101), .bin .sub .u64 false, [.tmp 97, .tmp 100], none⟩,
    ⟨(some 16), .mov, [.tmp 101], none⟩] false)
  (.seq (.block 2
    (.loop
      (.seq (.seq (.ops [
        ⟨(some 102), .mov, [.tmp 18], none⟩,
        ⟨(some 103), .cmp .geq, [.tmp 102, .const (.int .u64 4294967296)], none⟩,
        ⟨(some 104), .mov, [.tmp 103], none⟩,
        ⟨(some 105), .mov, [.tmp 18], (some (104, false))⟩,
        ⟨(some 106), .mov, [.tmp 10], (some (104, false))⟩,
        ⟨(some 107), .bin .mul .u64 false, [.tmp 105, .tmp 106], (some (104, false))⟩,
        ⟨(some 108), .mov, [.tmp 16], (some (104, false))⟩,
        ⟨(some 109), .bin .mul .u64 false, [.const (.int .u64 4294967296), .tmp 108], (some (104, false))⟩,
        ⟨(some 110), .mov, [.tmp 14], (some (104, false))⟩,
        ⟨(some 111), .bin .add .u64 false, [.tmp 109, .tmp 110], (some (104, false))⟩,
        ⟨(some 112), .cmp .gtr, [.tmp 107, .tmp 111], (some (104, false))⟩,
        ⟨(some 113), .pick, [.tmp 104, .const (.bool true), .tmp 112], none⟩] false)
      (.cond (.tmp 113)
        .skip
        (.exit 2)))
      (.block 3
        (.seq (.ops [
          ⟨(some 114), .mov, [.tmp 18], none⟩,
          ⟨(some 115), .bin .sub .u64 false, [.tmp 114, .const (.int .u64 1)], none⟩,
          ⟨(some 18), .mov, [.tmp 115], none⟩] false)
        (.seq (.ops [
          ⟨(some 116), .mov, [.tmp 16], none⟩,
          ⟨(some 117), .mov, [.tmp 9], none⟩,
          ⟨(some 118), .bin .add .u64 false, [.tmp 116, .tmp 117], none⟩,
          ⟨(some 16), .mov, [.tmp 118], none⟩] false)
        (.seq (.ops [
          ⟨(some 119), .mov, [.tmp 16], none⟩,
          ⟨(some 120), .cmp .geq, [.tmp 119, .const (.int .u64 4294967296)], none⟩] false)
        (.cond (.tmp 120)
          (.exit 2)
          .skip))))))))
  (.seq (.ops [
    ⟨(some 121), .mov, [.tmp 15], none⟩,
    ⟨(some 122), .bin .mul .u64 false, [.tmp 121, .const (.int .u64 4294967296)], none⟩,
    ⟨(some 123), .mov, [.tmp 18], none⟩,
    ⟨(some 124), .bin .add .u64 false, [.tmp 122, .tmp 123], none⟩,
    ⟨(some 125), .mov, [.tmp 17], none⟩,
    ⟨(some 126), .bin .mul .u64 true, [.tmp 125, .const (.int .u64 4294967296)], none⟩,
    ⟨(some 127), .mov, [.tmp 14], none⟩,
    ⟨(some 128), .bin .add .u64 true, [.tmp 126, .tmp 127], none⟩,
    ⟨(some 129), .mov, [.tmp 18], none⟩,
    ⟨(some 130), .mov, [.tmp 2], none⟩,
    ⟨(some 131), .bin .mul .u64 true, [.tmp 129, .tmp 130], none⟩,
    ⟨(some 132), .bin .sub .u64 true, [.tmp 128, .tmp 131], none⟩,
    ⟨(some 133), .mov, [.tmp 8], none⟩,
    ⟨(some 134), .bin .shr .u64 false, [.tmp 132, .tmp 133], none⟩,
    ⟨(some 6), .mov, [.tmp 124], none⟩,
    ⟨(some 7), .mov, [.tmp 134], none⟩] false)
  .ret))))))))))))))))))))⟩
theorem divLow : lowF Try.prog { wraps := [87, 89, 92, 93, 126, 128, 131, 132] } Try.f39 = some divIr := by kernel_rfl
def divS : Spec := spec (Int × Int × Int) (fun p => [U p.1, U p.2.1, U p.2.2]) (fun p => ((0 ≤ p.1 ∧ p.1 < p.2.2) ∧ p.2.2 < 68719476736) ∧ 0 ≤ p.2.1 ∧ p.2.1 < 18446744073709551616) (fun p => .tup [U ((p.1 * 18446744073709551616 + p.2.1) / p.2.2), U ((p.1 * 18446744073709551616 + p.2.1) % p.2.2)])
set_option maxHeartbeats 2000000 in
theorem divV : fnV Try.prog divIr divS := by
  intro ⟨(hi : Int), (lo : Int), (y : Int)⟩ hx
  obtain ⟨⟨⟨h0, h1⟩, hy⟩, l0, l1⟩ : ((0 ≤ hi ∧ hi < y) ∧ y < 68719476736) ∧ 0 ≤ lo ∧ lo < 18446744073709551616 := hx
  show vc _ _ _ _ ⟨argEnv 0 [U hi, U lo, U y], [], 0⟩
  by_cases hz : hi = 0
  · subst hz
    have ed := Int.tdiv_eq_ediv_of_nonneg (b := y) l0
    have em := Int.tmod_eq_emod_of_nonneg (b := y) l0
    have d0 := Int.ediv_nonneg l0 (show 0 ≤ y by omega)
    have d1 := Int.ediv_le_self y l0
    repeat' ((conv => whnf); first | (refine ⟨fun h => ?_, fun h => ?_⟩ <;> try (exfalso; first | omega | exact absurd h (by decide) | exact h rfl)) | (refine ⟨⟨by omega, inR_u64 (by omega) (by omega)⟩, ?_⟩; rw [ed]) | (refine ⟨by omega, ?_⟩; rw [em]) | fail)
    refine ⟨[], rfl, trivial, ?_⟩
    show leR _ (.tup [U ((0 * 18446744073709551616 + lo) / y), U ((0 * 18446744073709551616 + lo) % y)])
    rw [Int.zero_mul, Int.zero_add]
    exact ⟨rfl, rfl, trivial⟩
  obtain ⟨s, hb, ⟨s0, s1⟩, n0, n1⟩ := shl_norm (y := y) (by omega) hy
  have hlz : 64 - (Lib.bitLen y.toNat : Int) = s := by omega
  obtain ⟨eN, ⟨b0, b1⟩, ⟨a0, a1⟩, u1, u0⟩ := num_shl h0 h1 l0 l1 s1 n1
  have e1 := shl_val (x := y) (s := s) (by omega) n1 s1
  have e2 := shl_val (x := hi) (s := s) a0 a1 s1
  have e3 := shr_val lo (j := 64 - (s : Int)) (s := 64 - s) (by omega) (by omega)
  have e4 := or_val (a := hi) (s := s) h0 a1 b0 b1 s1
  have e5 := shl_mod (x := lo) (s := s) s1
  have e6 := low32 (y * 2 ^ s)
  have e7 := low32 (lo * 2 ^ s % 18446744073709551616)
  have ey : y * 2 ^ s = y * 2 ^ s / 4294967296 * 4294967296 + y * 2 ^ s % 4294967296 := by omega
  have ed : lo * 2 ^ s % 18446744073709551616 = lo * 2 ^ s % 18446744073709551616 / 4294967296 * 4294967296 + lo * 2 ^ s % 18446744073709551616 % 4294967296 := by omega
  have m0 : 0 ≤ lo * 2 ^ s % 18446744073709551616 ∧ lo * 2 ^ s % 18446744073709551616 < 18446744073709551616 := ⟨Int.emod_nonneg _ (by decide), Int.emod_lt_of_pos _ (by decide)⟩
  have e8 := shr32 (y * 2 ^ s)
  have e9 := shr32 (lo * 2 ^ s % 18446744073709551616)
  rw [e4.symm.trans e4] at u1
  generalize hu : hi * 2 ^ s + lo / 2 ^ (64 - s) = u at *
  generalize hY : y * 2 ^ s = Y at *
  generalize hM : lo * 2 ^ s % 18446744073709551616 = M at *
  obtain ⟨y1, hy1⟩ : ∃ y1, y1 = Y / 4294967296 := ⟨_, rfl⟩
  obtain ⟨y0, hy0⟩ : ∃ y0, y0 = Y % 4294967296 := ⟨_, rfl⟩
  obtain ⟨d1, hd1⟩ : ∃ d1, d1 = M / 4294967296 := ⟨_, rfl⟩
  obtain ⟨d0, hd0⟩ : ∃ d0, d0 = M % 4294967296 := ⟨_, rfl⟩
  rw [← hy0] at e6
  rw [← hd0] at e7
  rw [← hy1] at e8
  rw [← hd1] at e9
  have eY : Y = y1 * 4294967296 + y0 := by omega
  obtain ⟨Q1, hQ1⟩ : ∃ Q, Q = (u * 4294967296 + d1) / (y1 * 4294967296 + y0) := ⟨_, rfl⟩
  have D1 : Dg u d1 y1 y0 Q1 := ⟨by omega, by omega, by omega, by omega, by omega, by omega, by omega, by omega, hQ1⟩
  have D1s := D1.start
  obtain ⟨r0, r1⟩ := D1.rest
  obtain ⟨v, hv⟩ : ∃ v, v = u * 4294967296 + d1 - Q1 * (y1 * 4294967296 + y0) := ⟨_, rfl⟩
  rw [← hv] at r0 r1
  obtain ⟨Q0, hQ0⟩ : ∃ Q, Q = (v * 4294967296 + d0) / (y1 * 4294967296 + y0) := ⟨_, rfl⟩
  have D2 : Dg v d0 y1 y0 Q0 := ⟨by omega, by omega, by omega, by omega, r0, r1, by omega, by omega, hQ0⟩
  have D2s := D2.start
  have t1 := Int.tdiv_eq_ediv_of_nonneg (b := y1) u0
  have t2 := Int.tdiv_eq_ediv_of_nonneg (b := y1) r0
  have f0 := Int.ediv_nonneg u0 (show 0 ≤ y1 by omega)
  have f1 := Int.ediv_nonneg r0 (show 0 ≤ y1 by omega)
  have hq1 := D1.Qa
  have hq0 := D2.Qa
  have hvY : v = u * 4294967296 + d1 - Q1 * Y := by rw [eY]; exact hv
  have hw1 : IntKind.wrap .u64 (IntKind.wrap .u64 (IntKind.wrap .u64 (u * 4294967296) + d1) - IntKind.wrap .u64 (Q1 * Y)) = v := by
    rw [wrap_u64, wrap_u64, wrap_u64, wrap_u64]; omega
  obtain ⟨g0, g1⟩ := D2.rest
  obtain ⟨R, hR⟩ : ∃ R, R = v * 4294967296 + d0 - Q0 * (y1 * 4294967296 + y0) := ⟨_, rfl⟩
  rw [← hR] at g0 g1
  have hRY : R = v * 4294967296 + d0 - Q0 * Y := by rw [eY]; exact hR
  have hw2 : IntKind.wrap .u64 (IntKind.wrap .u64 (IntKind.wrap .u64 (v * 4294967296) + d0) - IntKind.wrap .u64 (Q0 * Y)) = R := by
    rw [wrap_u64, wrap_u64, wrap_u64, wrap_u64]; omega
  have hfin := div_fin (N := hi * 18446744073709551616 + lo) (y := y) (s := s) (u := u) (d1 := d1) (d0 := d0) (y1 := y1) (y0 := y0) (Q1 := Q1) (Q0 := Q0) (by omega) (by rw [hY]; exact eY) (by rw [eN]; omega) (by rw [← hv]; exact D2)
  rw [← hv, ← hR] at hfin
  obtain ⟨hN1, hN2⟩ := hfin
  repeat' ((conv => whnf); first | (refine ⟨fun h => ?_, fun h => ?_⟩ <;> try (exfalso; first | omega | exact absurd h (by decide) | exact h rfl)) | (refine ⟨_, lz_h, y, (by show 0 < y ∧ y < 68719476736; omega), leVs_of_eq rfl, .inl rfl, rfl, ?_⟩; show norm (I (64 - Lib.bitLen y.toNat)) _; rw [hlz]) | (refine ⟨by omega, ?_⟩; first | rw [e1] | rw [e2] | rw [e3] | rw [e5]) | (rw [e4]) | (rw [e6]) | (rw [e7]) | (refine ⟨by decide, ?_⟩; first | rw [e8] | rw [e9]) | (refine ⟨⟨by omega, by rw [t1]; exact inR_u64 (by omega) (by omega)⟩, ?_⟩; rw [t1]) | (refine ⟨inR_u64 (by omega) (by omega), ?_⟩) | fail | fail)
  refine ⟨Int × Int, fun xq => ⟨[(2, U Y), (8, U s), (9, U y1), (10, U y0), (11, U u), (13, U d1), (14, U d0), (15, U xq.1), (16, U xq.2)], [], 0⟩, fun xq => ((xq.1 * y1 + xq.2 = u ∧ Q1 ≤ xq.1) ∧ xq.1 ≤ 4294967297) ∧ 0 ≤ xq.2 ∧ xq.2 < 4294967296, fun xq => xq.1.toNat, ⟨(_, _), ?_, [], ⟨⟨rfl, rfl⟩, ⟨⟨rfl, rfl⟩, ⟨⟨rfl, rfl⟩, ⟨⟨rfl, rfl⟩, ⟨⟨rfl, rfl⟩, ⟨⟨rfl, rfl⟩, ⟨⟨rfl, rfl⟩, ⟨⟨rfl, rfl⟩, ⟨⟨rfl, rfl⟩, trivial⟩⟩⟩⟩⟩⟩⟩⟩⟩, trivial, rfl, rfl, rfl⟩, ?_⟩
  · (try dsimp only); exact ⟨⟨⟨D1s.2.1.1, D1s.1.1⟩, D1s.1.2⟩, D1s.2.1.2⟩
  rintro ⟨q, r⟩ hk
  obtain ⟨⟨⟨hr, hQq⟩, hq1⟩, r0, r1⟩ : ((q * y1 + r = u ∧ Q1 ≤ q) ∧ q ≤ 4294967297) ∧ 0 ≤ r ∧ r < 4294967296 := hk
  (try dsimp only)
  have hQ := D1.Qa
  have hless : (q - 1) * y1 = q * y1 - y1 := Dg.less
  by_cases hc : 4294967296 ≤ q ∨ 4294967296 * r + d1 < q * y0
  · have hd := D1.down hr hc
    have hr' : (q - 1) * y1 + (r + y1) = u := by omega
    by_cases hbk : 4294967296 ≤ r + y1
    · have he : q - 1 = Q1 := Int.le_antisymm (D1.big hr' hbk (by omega)) hd
      by_cases hqb : 4294967296 ≤ q
      · repeat' ((conv => whnf); first | (refine ⟨fun h => ?_, fun h => ?_⟩ <;> try (exfalso; first | omega | exact absurd h (by decide) | exact h rfl)) | (refine ⟨inR_u64 (by omega) (by omega), ?_⟩) | (rw [he]) | fail)
        repeat' ((conv => whnf); first | (rw [hw1]) | (refine ⟨⟨by omega, by rw [t2]; exact inR_u64 (by omega) (by omega)⟩, ?_⟩; rw [t2]) | (refine ⟨inR_u64 (by omega) (by omega), ?_⟩) | fail | fail)
        refine ⟨Int × Int, fun xq => ⟨[(2, U Y), (8, U s), (9, U y1), (10, U y0), (14, U d0), (15, U Q1), (17, U v), (18, U xq.1), (16, U xq.2)], [], 0⟩, fun xq => ((xq.1 * y1 + xq.2 = v ∧ Q0 ≤ xq.1) ∧ xq.1 ≤ 4294967297) ∧ 0 ≤ xq.2 ∧ xq.2 < 4294967296, fun xq => xq.1.toNat, ⟨(_, _), ?_, [], ⟨⟨rfl, rfl⟩, ⟨⟨rfl, rfl⟩, ⟨⟨rfl, rfl⟩, ⟨⟨rfl, rfl⟩, ⟨⟨rfl, rfl⟩, ⟨⟨rfl, rfl⟩, ⟨⟨rfl, rfl⟩, ⟨⟨rfl, rfl⟩, ⟨⟨rfl, rfl⟩, trivial⟩⟩⟩⟩⟩⟩⟩⟩⟩, trivial, rfl, rfl, rfl⟩, ?_⟩
        · (try dsimp only); exact ⟨⟨⟨D2s.2.1.1, D2s.1.1⟩, D2s.1.2⟩, D2s.2.1.2⟩
        rintro ⟨q, r⟩ hk
        obtain ⟨⟨⟨hr, hQq⟩, hq1⟩, r0, r1⟩ : ((q * y1 + r = v ∧ Q0 ≤ q) ∧ q ≤ 4294967297) ∧ 0 ≤ r ∧ r < 4294967296 := hk
        (try dsimp only)
        have hQ := D2.Qa
        have hless : (q - 1) * y1 = q * y1 - y1 := Dg.less
        by_cases hc : 4294967296 ≤ q ∨ 4294967296 * r + d0 < q * y0
        · have hd := D2.down hr hc
          have hr' : (q - 1) * y1 + (r + y1) = v := by omega
          by_cases hbk : 4294967296 ≤ r + y1
          · have he : q - 1 = Q0 := Int.le_antisymm (D2.big hr' hbk (by omega)) hd
            by_cases hqb : 4294967296 ≤ q
            · repeat' ((conv => whnf); first | (refine ⟨fun h => ?_, fun h => ?_⟩ <;> try (exfalso; first | omega | exact absurd h (by decide) | exact h rfl)) | (refine ⟨inR_u64 (by omega) (by omega), ?_⟩) | (rw [he]) | fail)
              repeat' ((conv => whnf); first | (rw [hw2]) | (refine ⟨by omega, ?_⟩; rw [shr_val R rfl s1]) | (refine ⟨inR_u64 (by omega) (by omega), ?_⟩) | fail | fail)
              refine ⟨[], rfl, trivial, ?_⟩
              show leR _ (.tup [U ((hi * 18446744073709551616 + lo) / y), U ((hi * 18446744073709551616 + lo) % y)])
              rw [← hN1, ← hN2]
              exact ⟨rfl, rfl, trivial⟩
            · have hp := D2.prod (q := q) (by omega) (by omega)
              repeat' ((conv => whnf); first | (refine ⟨fun h => ?_, fun h => ?_⟩ <;> try (exfalso; first | omega | exact absurd h (by decide) | exact h rfl)) | (refine ⟨inR_u64 (by omega) (by omega), ?_⟩) | (rw [he]) | fail)
              repeat' ((conv => whnf); first | (rw [hw2]) | (refine ⟨by omega, ?_⟩; rw [shr_val R rfl s1]) | (refine ⟨inR_u64 (by omega) (by omega), ?_⟩) | fail | fail)
              refine ⟨[], rfl, trivial, ?_⟩
              show leR _ (.tup [U ((hi * 18446744073709551616 + lo) / y), U ((hi * 18446744073709551616 + lo) % y)])
              rw [← hN1, ← hN2]
              exact ⟨rfl, rfl, trivial⟩
          · by_cases hqb : 4294967296 ≤ q
            · repeat' ((conv => whnf); first | (refine ⟨fun h => ?_, fun h => ?_⟩ <;> try (exfalso; first | omega | exact absurd h (by decide) | exact h rfl)) | (refine ⟨(_, _), ⟨?_, by (try dsimp only); omega⟩, [], ⟨⟨rfl, rfl⟩, ⟨⟨rfl, rfl⟩, ⟨⟨rfl, rfl⟩, ⟨⟨rfl, rfl⟩, ⟨⟨rfl, rfl⟩, ⟨⟨rfl, rfl⟩, ⟨⟨rfl, rfl⟩, ⟨⟨rfl, rfl⟩, ⟨⟨rfl, rfl⟩, trivial⟩⟩⟩⟩⟩⟩⟩⟩⟩, trivial, rfl, rfl, rfl⟩; (try dsimp only); exact ⟨⟨⟨hr', hd⟩, by omega⟩, by omega, by omega⟩) | (refine ⟨inR_u64 (by omega) (by omega), ?_⟩) | fail)
            · have hp := D2.prod (q := q) (by omega) (by omega)
              repeat' ((conv => whnf); first | (refine ⟨fun h => ?_, fun h => ?_⟩ <;> try (exfalso; first | omega | exact absurd h (by decide) | exact h rfl)) | (refine ⟨(_, _), ⟨?_, by (try dsimp only); omega⟩, [], ⟨⟨rfl, rfl⟩, ⟨⟨rfl, rfl⟩, ⟨⟨rfl, rfl⟩, ⟨⟨rfl, rfl⟩, ⟨⟨rfl, rfl⟩, ⟨⟨rfl, rfl⟩, ⟨⟨rfl, rfl⟩, ⟨⟨rfl, rfl⟩, ⟨⟨rfl, rfl⟩, trivial⟩⟩⟩⟩⟩⟩⟩⟩⟩, trivial, rfl, rfl, rfl⟩; (try dsimp only); exact ⟨⟨⟨hr', hd⟩, by omega⟩, by omega, by omega⟩) | (refine ⟨inR_u64 (by omega) (by omega), ?_⟩) | fail)
        · have hp := D2.prod (q := q) (by omega) (by omega)
          have he : q = Q0 := Int.le_antisymm (D2.up hr (by omega)) hQq
          repeat' ((conv => whnf); first | (refine ⟨fun h => ?_, fun h => ?_⟩ <;> try (exfalso; first | omega | exact absurd h (by decide) | exact h rfl)) | (refine ⟨inR_u64 (by omega) (by omega), ?_⟩) | (rw [he]) | fail)
          repeat' ((conv => whnf); first | (rw [hw2]) | (refine ⟨by omega, ?_⟩; rw [shr_val R rfl s1]) | (refine ⟨inR_u64 (by omega) (by omega), ?_⟩) | fail | fail)
          refine ⟨[], rfl, trivial, ?_⟩
          show leR _ (.tup [U ((hi * 18446744073709551616 + lo) / y), U ((hi * 18446744073709551616 + lo) % y)])
          rw [← hN1, ← hN2]
          exact ⟨rfl, rfl, trivial⟩
      · have hp := D1.prod (q := q) (by omega) (by omega)
        repeat' ((conv => whnf); first | (refine ⟨fun h => ?_, fun h => ?_⟩ <;> try (exfalso; first | omega | exact absurd h (by decide) | exact h rfl)) | (refine ⟨inR_u64 (by omega) (by omega), ?_⟩) | (rw [he]) | fail)
        repeat' ((conv => whnf); first | (rw [hw1]) | (refine ⟨⟨by omega, by rw [t2]; exact inR_u64 (by omega) (by omega)⟩, ?_⟩; rw [t2]) | (refine ⟨inR_u64 (by omega) (by omega), ?_⟩) | fail | fail)
        refine ⟨Int × Int, fun xq => ⟨[(2, U Y), (8, U s), (9, U y1), (10, U y0), (14, U d0), (15, U Q1), (17, U v), (18, U xq.1), (16, U xq.2)], [], 0⟩, fun xq => ((xq.1 * y1 + xq.2 = v ∧ Q0 ≤ xq.1) ∧ xq.1 ≤ 4294967297) ∧ 0 ≤ xq.2 ∧ xq.2 < 4294967296, fun xq => xq.1.toNat, ⟨(_, _), ?_, [], ⟨⟨rfl, rfl⟩, ⟨⟨rfl, rfl⟩, ⟨⟨rfl, rfl⟩, ⟨⟨rfl, rfl⟩, ⟨⟨rfl, rfl⟩, ⟨⟨rfl, rfl⟩, ⟨⟨rfl, rfl⟩, ⟨⟨rfl, rfl⟩, ⟨⟨rfl, rfl⟩, trivial⟩⟩⟩⟩⟩⟩⟩⟩⟩, trivial, rfl, rfl, rfl⟩, ?_⟩
        · (try dsimp only); exact ⟨⟨⟨D2s.2.1.1, D2s.1.1⟩, D2s.1.2⟩, D2s.2.1.2⟩
        rintro ⟨q, r⟩ hk
        obtain ⟨⟨⟨hr, hQq⟩, hq1⟩, r0, r1⟩ : ((q * y1 + r = v ∧ Q0 ≤ q) ∧ q ≤ 4294967297) ∧ 0 ≤ r ∧ r < 4294967296 := hk
        (try dsimp only)
        have hQ := D2.Qa
        have hless : (q - 1) * y1 = q * y1 - y1 := Dg.less
        by_cases hc : 4294967296 ≤ q ∨ 4294967296 * r + d0 < q * y0
        · have hd := D2.down hr hc
          have hr' : (q - 1) * y1 + (r + y1) = v := by omega
          by_cases hbk : 4294967296 ≤ r + y1
          · have he : q - 1 = Q0 := Int.le_antisymm (D2.big hr' hbk (by omega)) hd
            by_cases hqb : 4294967296 ≤ q
            · repeat' ((conv => whnf); first | (refine ⟨fun h => ?_, fun h => ?_⟩ <;> try (exfalso; first | omega | exact absurd h (by decide) | exact h rfl)) | (refine ⟨inR_u64 (by omega) (by omega), ?_⟩) | (rw [he]) | fail)
              repeat' ((conv => whnf); first | (rw [hw2]) | (refine ⟨by omega, ?_⟩; rw [shr_val R rfl s1]) | (refine ⟨inR_u64 (by omega) (by omega), ?_⟩) | fail | fail)
              refine ⟨[], rfl, trivial, ?_⟩
              show leR _ (.tup [U ((hi * 18446744073709551616 + lo) / y), U ((hi * 18446744073709551616 + lo) % y)])
              rw [← hN1, ← hN2]
              exact ⟨rfl, rfl, trivial⟩
            · have hp := D2.prod (q := q) (by omega) (by omega)
              repeat' ((conv => whnf); first | (refine ⟨fun h => ?_, fun h => ?_⟩ <;> try (exfalso; first | omega | exact absurd h (by decide) | exact h rfl)) | (refine ⟨inR_u64 (by omega) (by omega), ?_⟩) | (rw [he]) | fail)
              repeat' ((conv => whnf); first | (rw [hw2]) | (refine ⟨by omega, ?_⟩; rw [shr_val R rfl s1]) | (refine ⟨inR_u64 (by omega) (by omega), ?_⟩) | fail | fail)
              refine ⟨[], rfl, trivial, ?_⟩
              show leR _ (.tup [U ((hi * 18446744073709551616 + lo) / y), U ((hi * 18446744073709551616 + lo) % y)])
              rw [← hN1, ← hN2]
              exact ⟨rfl, rfl, trivial⟩
          · by_cases hqb : 4294967296 ≤ q
            · repeat' ((conv => whnf); first | (refine ⟨fun h => ?_, fun h => ?_⟩ <;> try (exfalso; first | omega | exact absurd h (by decide) | exact h rfl)) | (refine ⟨(_, _), ⟨?_, by (try dsimp only); omega⟩, [], ⟨⟨rfl, rfl⟩, ⟨⟨rfl, rfl⟩, ⟨⟨rfl, rfl⟩, ⟨⟨rfl, rfl⟩, ⟨⟨rfl, rfl⟩, ⟨⟨rfl, rfl⟩, ⟨⟨rfl, rfl⟩, ⟨⟨rfl, rfl⟩, ⟨⟨rfl, rfl⟩, trivial⟩⟩⟩⟩⟩⟩⟩⟩⟩, trivial, rfl, rfl, rfl⟩; (try dsimp only); exact ⟨⟨⟨hr', hd⟩, by omega⟩, by omega, by omega⟩) | (refine ⟨inR_u64 (by omega) (by omega), ?_⟩) | fail)
            · have hp := D2.prod (q := q) (by omega) (by omega)
              repeat' ((conv => whnf); first | (refine ⟨fun h => ?_, fun h => ?_⟩ <;> try (exfalso; first | omega | exact absurd h (by decide) | exact h rfl)) | (refine ⟨(_, _), ⟨?_, by (try dsimp only); omega⟩, [], ⟨⟨rfl, rfl⟩, ⟨⟨rfl, rfl⟩, ⟨⟨rfl, rfl⟩, ⟨⟨rfl, rfl⟩, ⟨⟨rfl, rfl⟩, ⟨⟨rfl, rfl⟩, ⟨⟨rfl, rfl⟩, ⟨⟨rfl, rfl⟩, ⟨⟨rfl, rfl⟩, trivial⟩⟩⟩⟩⟩⟩⟩⟩⟩, trivial, rfl, rfl, rfl⟩; (try dsimp only); exact ⟨⟨⟨hr', hd⟩, by omega⟩, by omega, by omega⟩) | (refine ⟨inR_u64 (by omega) (by omega), ?_⟩) | fail)
        · have hp := D2.prod (q := q) (by omega) (by omega)
          have he : q = Q0 := Int.le_antisymm (D2.up hr (by omega)) hQq
          repeat' ((conv => whnf); first | (refine ⟨fun h => ?_, fun h => ?_⟩ <;> try (exfalso; first | omega | exact absurd h (by decide) | exact h rfl)) | (refine ⟨inR_u64 (by omega) (by omega), ?_⟩) | (rw [he]) | fail)
          repeat' ((conv => whnf); first | (rw [hw2]) | (refine ⟨by omega, ?_⟩; rw [shr_val R rfl s1]) | (refine ⟨inR_u64 (by omega) (by omega), ?_⟩) | fail | fail)
          refine ⟨[], rfl, trivial, ?_⟩
          show leR _ (.tup [U ((hi * 18446744073709551616 + lo) / y), U ((hi * 18446744073709551616 + lo) % y)])
          rw [← hN1, ← hN2]
          exact ⟨rfl, rfl, trivial⟩
    · by_cases hqb : 4294967296 ≤ q
      · repeat' ((conv => whnf); first | (refine ⟨fun h => ?_, fun h => ?_⟩ <;> try (exfalso; first | omega | exact absurd h (by decide) | exact h rfl)) | (refine ⟨(_, _), ⟨?_, by (try dsimp only); omega⟩, [], ⟨⟨rfl, rfl⟩, ⟨⟨rfl, rfl⟩, ⟨⟨rfl, rfl⟩, ⟨⟨rfl, rfl⟩, ⟨⟨rfl, rfl⟩, ⟨⟨rfl, rfl⟩, ⟨⟨rfl, rfl⟩, ⟨⟨rfl, rfl⟩, ⟨⟨rfl, rfl⟩, trivial⟩⟩⟩⟩⟩⟩⟩⟩⟩, trivial, rfl, rfl, rfl⟩; (try dsimp only); exact ⟨⟨⟨hr', hd⟩, by omega⟩, by omega, by omega⟩) | (refine ⟨inR_u64 (by omega) (by omega), ?_⟩) | fail)
      · have hp := D1.prod (q := q) (by omega) (by omega)
        repeat' ((conv => whnf); first | (refine ⟨fun h => ?_, fun h => ?_⟩ <;> try (exfalso; first | omega | exact absurd h (by decide) | exact h rfl)) | (refine ⟨(_, _), ⟨?_, by (try dsimp only); omega⟩, [], ⟨⟨rfl, rfl⟩, ⟨⟨rfl, rfl⟩, ⟨⟨rfl, rfl⟩, ⟨⟨rfl, rfl⟩, ⟨⟨rfl, rfl⟩, ⟨⟨rfl, rfl⟩, ⟨⟨rfl, rfl⟩, ⟨⟨rfl, rfl⟩, ⟨⟨rfl, rfl⟩, trivial⟩⟩⟩⟩⟩⟩⟩⟩⟩, trivial, rfl, rfl, rfl⟩; (try dsimp only); exact ⟨⟨⟨hr', hd⟩, by omega⟩, by omega, by omega⟩) | (refine ⟨inR_u64 (by omega) (by omega), ?_⟩) | fail)
  · have hp := D1.prod (q := q) (by omega) (by omega)
    have he : q = Q1 := Int.le_antisymm (D1.up hr (by omega)) hQq
    repeat' ((conv => whnf); first | (refine ⟨fun h => ?_, fun h => ?_⟩ <;> try (exfalso; first | omega | exact absurd h (by decide) | exact h rfl)) | (refine ⟨inR_u64 (by omega) (by omega), ?_⟩) | (rw [he]) | fail)
    repeat' ((conv => whnf); first | (rw [hw1]) | (refine ⟨⟨by omega, by rw [t2]; exact inR_u64 (by omega) (by omega)⟩, ?_⟩; rw [t2]) | (refine ⟨inR_u64 (by omega) (by omega), ?_⟩) | fail | fail)
    refine ⟨Int × Int, fun xq => ⟨[(2, U Y), (8, U s), (9, U y1), (10, U y0), (14, U d0), (15, U Q1), (17, U v), (18, U xq.1), (16, U xq.2)], [], 0⟩, fun xq => ((xq.1 * y1 + xq.2 = v ∧ Q0 ≤ xq.1) ∧ xq.1 ≤ 4294967297) ∧ 0 ≤ xq.2 ∧ xq.2 < 4294967296, fun xq => xq.1.toNat, ⟨(_, _), ?_, [], ⟨⟨rfl, rfl⟩, ⟨⟨rfl, rfl⟩, ⟨⟨rfl, rfl⟩, ⟨⟨rfl, rfl⟩, ⟨⟨rfl, rfl⟩, ⟨⟨rfl, rfl⟩, ⟨⟨rfl, rfl⟩, ⟨⟨rfl, rfl⟩, ⟨⟨rfl, rfl⟩, trivial⟩⟩⟩⟩⟩⟩⟩⟩⟩, trivial, rfl, rfl, rfl⟩, ?_⟩
    · (try dsimp only); exact ⟨⟨⟨D2s.2.1.1, D2s.1.1⟩, D2s.1.2⟩, D2s.2.1.2⟩
    rintro ⟨q, r⟩ hk
    obtain ⟨⟨⟨hr, hQq⟩, hq1⟩, r0, r1⟩ : ((q * y1 + r = v ∧ Q0 ≤ q) ∧ q ≤ 4294967297) ∧ 0 ≤ r ∧ r < 4294967296 := hk
    (try dsimp only)
    have hQ := D2.Qa
    have hless : (q - 1) * y1 = q * y1 - y1 := Dg.less
    by_cases hc : 4294967296 ≤ q ∨ 4294967296 * r + d0 < q * y0
    · have hd := D2.down hr hc
      have hr' : (q - 1) * y1 + (r + y1) = v := by omega
      by_cases hbk : 4294967296 ≤ r + y1
      · have he : q - 1 = Q0 := Int.le_antisymm (D2.big hr' hbk (by omega)) hd
        by_cases hqb : 4294967296 ≤ q
        · repeat' ((conv => whnf); first | (refine ⟨fun h => ?_, fun h => ?_⟩ <;> try (exfalso; first | omega | exact absurd h (by decide) | exact h rfl)) | (refine ⟨inR_u64 (by omega) (by omega), ?_⟩) | (rw [he]) | fail)
          repeat' ((conv => whnf); first | (rw [hw2]) | (refine ⟨by omega, ?_⟩; rw [shr_val R rfl s1]) | (refine ⟨inR_u64 (by omega) (by omega), ?_⟩) | fail | fail)
          refine ⟨[], rfl, trivial, ?_⟩
          show leR _ (.tup [U ((hi * 18446744073709551616 + lo) / y), U ((hi * 18446744073709551616 + lo) % y)])
          rw [← hN1, ← hN2]
          exact ⟨rfl, rfl, trivial⟩
        · have hp := D2.prod (q := q) (by omega) (by omega)
          repeat' ((conv => whnf); first | (refine ⟨fun h => ?_, fun h => ?_⟩ <;> try (exfalso; first | omega | exact absurd h (by decide) | exact h rfl)) | (refine ⟨inR_u64 (by omega) (by omega), ?_⟩) | (rw [he]) | fail)
          repeat' ((conv => whnf); first | (rw [hw2]) | (refine ⟨by omega, ?_⟩; rw [shr_val R rfl s1]) | (refine ⟨inR_u64 (by omega) (by omega), ?_⟩) | fail | fail)
          refine ⟨[], rfl, trivial, ?_⟩
          show leR _ (.tup [U ((hi * 18446744073709551616 + lo) / y), U ((hi * 18446744073709551616 + lo) % y)])
          rw [← hN1, ← hN2]
          exact ⟨rfl, rfl, trivial⟩
      · by_cases hqb : 4294967296 ≤ q
        · repeat' ((conv => whnf); first | (refine ⟨fun h => ?_, fun h => ?_⟩ <;> try (exfalso; first | omega | exact absurd h (by decide) | exact h rfl)) | (refine ⟨(_, _), ⟨?_, by (try dsimp only); omega⟩, [], ⟨⟨rfl, rfl⟩, ⟨⟨rfl, rfl⟩, ⟨⟨rfl, rfl⟩, ⟨⟨rfl, rfl⟩, ⟨⟨rfl, rfl⟩, ⟨⟨rfl, rfl⟩, ⟨⟨rfl, rfl⟩, ⟨⟨rfl, rfl⟩, ⟨⟨rfl, rfl⟩, trivial⟩⟩⟩⟩⟩⟩⟩⟩⟩, trivial, rfl, rfl, rfl⟩; (try dsimp only); exact ⟨⟨⟨hr', hd⟩, by omega⟩, by omega, by omega⟩) | (refine ⟨inR_u64 (by omega) (by omega), ?_⟩) | fail)
        · have hp := D2.prod (q := q) (by omega) (by omega)
          repeat' ((conv => whnf); first | (refine ⟨fun h => ?_, fun h => ?_⟩ <;> try (exfalso; first | omega | exact absurd h (by decide) | exact h rfl)) | (refine ⟨(_, _), ⟨?_, by (try dsimp only); omega⟩, [], ⟨⟨rfl, rfl⟩, ⟨⟨rfl, rfl⟩, ⟨⟨rfl, rfl⟩, ⟨⟨rfl, rfl⟩, ⟨⟨rfl, rfl⟩, ⟨⟨rfl, rfl⟩, ⟨⟨rfl, rfl⟩, ⟨⟨rfl, rfl⟩, ⟨⟨rfl, rfl⟩, trivial⟩⟩⟩⟩⟩⟩⟩⟩⟩, trivial, rfl, rfl, rfl⟩; (try dsimp only); exact ⟨⟨⟨hr', hd⟩, by omega⟩, by omega, by omega⟩) | (refine ⟨inR_u64 (by omega) (by omega), ?_⟩) | fail)
    · have hp := D2.prod (q := q) (by omega) (by omega)
      have he : q = Q0 := Int.le_antisymm (D2.up hr (by omega)) hQq
      repeat' ((conv => whnf); first | (refine ⟨fun h => ?_, fun h => ?_⟩ <;> try (exfalso; first | omega | exact absurd h (by decide) | exact h rfl)) | (refine ⟨inR_u64 (by omega) (by omega), ?_⟩) | (rw [he]) | fail)
      repeat' ((conv => whnf); first | (rw [hw2]) | (refine ⟨by omega, ?_⟩; rw [shr_val R rfl s1]) | (refine ⟨inR_u64 (by omega) (by omega), ?_⟩) | fail | fail)
      refine ⟨[], rfl, trivial, ?_⟩
      show leR _ (.tup [U ((hi * 18446744073709551616 + lo) / y), U ((hi * 18446744073709551616 + lo) % y)])
      rw [← hN1, ← hN2]
      exact ⟨rfl, rfl, trivial⟩
theorem div_h : Holds Try.prog 39 divS := holds_of mix Try.func39 divLow (fun _ => rfl) divV

end Go.Proofs.Ytepacknnggnifaa
