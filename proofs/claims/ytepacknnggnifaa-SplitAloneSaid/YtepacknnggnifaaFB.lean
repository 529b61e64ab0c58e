/- Split: the reference's Quotient. -/
import Derived.Test.YtepacknnggnifaaFA
namespace Go.Proofs.Ytepacknnggnifaa
open Go.RowKit

theorem shr0 {w : Int} (h0 : 0 ≤ w) (h1 : w ≤ 1000000000) : w / 2 ^ 31 = 0 := by
  have : (2 : Int) ^ 31 = 2147483648 := by decide
  rw [this]; omega
theorem quo_bnd {a w s : Int} (ha : 0 ≤ a) (hw : 0 ≤ w) (hs : 0 < s) (hws : w ≤ s) (j : Nat) : (0 ≤ a * (w / 2 ^ j) / s ∧ a * (w / 2 ^ j) / s ≤ a) ∧ 0 ≤ a * (w / 2 ^ j) % s ∧ a * (w / 2 ^ j) % s < s := by
  have h1 : 0 ≤ w / 2 ^ j := Int.ediv_nonneg hw (Int.le_of_lt (Int.pow_pos (by omega)))
  have h2 : w / 2 ^ j ≤ s := Int.le_trans (Int.ediv_le_self _ hw) hws
  refine ⟨⟨Int.ediv_nonneg (Int.mul_nonneg ha h1) (by omega), ?_⟩, Int.emod_nonneg _ (by omega), Int.emod_lt_of_pos _ hs⟩
  refine Int.ediv_le_of_le_mul hs ?_
  exact Int.mul_le_mul_of_nonneg_left h2 ha

/-! skiarea/skiarearef34.Quotient -/
def quoIr : IFn := ⟨44, [.tmp 6, .tmp 7],
  (.seq (.ops [
    ⟨(some 6), .mov, [.const (.int .i64 0)], none⟩,
    ⟨(some 7), .mov, [.const (.int .i64 0)], none⟩] false)
  (.seq (.ops [
    ⟨(some 8), .mov, [.const (.int .i64 0)], none⟩,
    ⟨(some 9), .mov, [.const (.int .i64 0)], none⟩] false)
  (.seq (.seq (.ops [
    ⟨(some 10), .mov, [.const (.int .i64 30)], none⟩] false)
  (.block 0
    (.loop
      (.seq (.seq (.ops [
        ⟨(some 11), .mov, [.tmp 10], none⟩,
        ⟨(some 12), .cmp .geq, [.tmp 11, .const (.int .i64 0)], none⟩] false)
      (.cond (.tmp 12)
        .skip
        (.exit 0)))
      (.seq (.block 1
        (.seq (.ops [
          ⟨(some 15), .mov, [.tmp 8], none⟩,
          ⟨(some 16), .bin .mul .i64 false, [.const (.int .i64 2), .tmp 15], none⟩,
          ⟨(some 8), .mov, [.tmp 16], none⟩] false)
        (.seq (.ops [
          ⟨(some 17), .mov, [.tmp 9], none⟩,
          ⟨(some 18), .bin .mul .i64 false, [.const (.int .i64 2), .tmp 17], none⟩,
          ⟨(some 9), .mov, [.tmp 18], none⟩] false)
        (.seq (.seq (.ops [
          ⟨(some 19), .mov, [.tmp 1], none⟩,
          ⟨(some 20), .mov, [.tmp 10], none⟩,
          ⟨(some 21), .bin .shr .i64 false, [.tmp 19, .tmp 20], none⟩,
          ⟨(some 22), .bin .and .i64 false, [.tmp 21, .const (.int .i64 1)], none⟩,
          ⟨(some 23), .cmp .eql, [.tmp 22, .const (.int .i64 1)], none⟩] false)
        (.cond (.tmp 23)
          (.seq (.ops [
            ⟨(some 24), .mov, [.tmp 8], none⟩,
            ⟨(some 25), .mov, [.tmp 0], none⟩,
            ⟨(some 26), .mov, [.tmp 2], none⟩,
            ⟨(some 27), .bin .quo .i64 false, [.tmp 25, .tmp 26], none⟩,
            ⟨(some 28), .bin .add .i64 false, [.tmp 24, .tmp 27], none⟩,
            ⟨(some 8), .mov, [.tmp 28], none⟩] false)
          (.ops [
            ⟨(some 29), .mov, [.tmp 9], none⟩,
            ⟨(some 30), .mov, [.tmp 0], none⟩,
            ⟨(some 31), .mov, [.tmp 2], none⟩,
            ⟨(some 32), .bin .rem .i64 false, [.tmp 30, .tmp 31], none⟩,
            ⟨(some 33), .bin .add .i64 false, [.tmp 29, .tmp 32], none⟩,
            ⟨(some 9), .mov, [.tmp 33], none⟩] false))
          .skip))
        (.seq (.ops [
          ⟨(some 34), .mov, [.tmp 8], none⟩,
          ⟨(some 35), .mov, [.tmp 9], none⟩,
          ⟨(some 36), .mov, [.tmp 2], none⟩,
          ⟨(some 37), .bin .quo .i64 false, [.tmp 35, .tmp 36], none⟩,
          ⟨(some 38), .bin .add .i64 false, [.tmp 34, .tmp 37], none⟩,
          ⟨(some 8), .mov, [.tmp 38], none⟩] false)
        (.ops [
          ⟨(some 39), .mov, [.tmp 9], none⟩,
          ⟨(some 40), .mov, [.tmp 2], none⟩,
          ⟨(some 41), .bin .rem .i64 false, [.tmp 39, .tmp 40], none⟩,
          ⟨(some 9), .mov, [.tmp 41], none⟩] false))))))
      (.ops [
        ⟨(some 13), .mov, [.tmp 10], none⟩,
        ⟨(some 14), .bin .sub .i64 false, [.tmp 13, .const (.int .i64 1)], none⟩,
        ⟨(some 10), .mov, [.tmp 14], none⟩] false))))))
  (.seq (.ops [
    ⟨(some 42), .mov, [.tmp 8], none⟩,
    ⟨(some 43), .mov, [.tmp 9], none⟩,
    ⟨(some 6), .mov, [.tmp 42], none⟩,
    ⟨(some 7), .mov, [.tmp 43], none⟩] false)
  .ret))))⟩
theorem quoLow : lowF Try.prog {} Try.f23 = some quoIr := by kernel_rfl
def quoS : Spec := spec (Int × Int × Int) (fun p => [I p.1, I p.2.1, I p.2.2]) (fun p => (0 ≤ p.1 ∧ p.1 ≤ 1099511627776) ∧ (0 ≤ p.2.1 ∧ p.2.1 ≤ 1000000000) ∧ (1 ≤ p.2.2 ∧ p.2.2 ≤ 64000000000) ∧ p.2.1 ≤ p.2.2) (fun p => .tup [I (p.1 * p.2.1 / p.2.2), I (p.1 * p.2.1 % p.2.2)])
theorem quoV : fnV Try.prog quoIr quoS := by
  intro ⟨(a : Int), (w : Int), (s : Int)⟩ hx
  obtain ⟨⟨a0, a1⟩, ⟨w0, w1⟩, ⟨s0, s1⟩, hws⟩ : (0 ≤ a ∧ a ≤ 1099511627776) ∧ (0 ≤ w ∧ w ≤ 1000000000) ∧ (1 ≤ s ∧ s ≤ 64000000000) ∧ w ≤ s := hx
  show vc _ _ _ _ ⟨argEnv 0 [I a, I w, I s], [], 0⟩
  conv => whnf
  refine ⟨Int × Int × Int, fun xq => ⟨[(0, I a), (1, I w), (2, I s), (8, I xq.1), (9, I xq.2.1), (10, I xq.2.2)], [], 0⟩, fun xq => ∃ j : Nat, (xq.2.2 = (j : Int) - 1 ∧ j ≤ 31) ∧ xq.1 = a * (w / 2 ^ j) / s ∧ xq.2.1 = a * (w / 2 ^ j) % s, fun xq => (xq.2.2 + 1).toNat, ⟨(0, 0, 30), ?_, [], ⟨⟨rfl, rfl⟩, ⟨⟨rfl, rfl⟩, ⟨⟨rfl, rfl⟩, ⟨⟨rfl, rfl⟩, ⟨⟨rfl, rfl⟩, ⟨⟨rfl, rfl⟩, trivial⟩⟩⟩⟩⟩⟩, trivial, rfl, rfl, rfl⟩, ?_⟩
  · (try dsimp only); exact ⟨31, ⟨rfl, by omega⟩, by rw [shr0 w0 w1]; simp, by rw [shr0 w0 w1]; simp⟩
  rintro ⟨q, r, i⟩ hk
  obtain ⟨j, ⟨hi, hj⟩, hq, hr⟩ : ∃ j : Nat, (i = (j : Int) - 1 ∧ j ≤ 31) ∧ q = a * (w / 2 ^ j) / s ∧ r = a * (w / 2 ^ j) % s := hk
  (try dsimp only)
  obtain ⟨⟨q0, q1⟩, r0, r1⟩ := quo_bnd a0 w0 (show 0 < s by omega) hws j
  rw [← hq] at q0 q1
  rw [← hr] at r0 r1
  cases j with
  | zero =>
    rw [show w / 2 ^ 0 = w by simp] at hq hr
    repeat' ((conv => whnf); first | (refine ⟨fun h => ?_, fun h => ?_⟩ <;> try (exfalso; first | omega | exact absurd h (by decide) | exact h rfl)) | fail | fail)
    exact ⟨[], rfl, trivial, ⟨congrArg (CV.int .i64) hq, congrArg (CV.int .i64) hr, trivial⟩⟩
  | succ j =>
    obtain ⟨⟨q2, q3⟩, r2, r3⟩ := quo_bnd a0 w0 (show 0 < s by omega) hws j
    have hij : i = (j : Int) := by omega
    subst hij
    have e1' := shrj w (show j < 64 by omega)
    have e2' := low1 (w / 2 ^ j)
    have ea := Int.tdiv_eq_ediv_of_nonneg (b := s) a0
    have eb := Int.tmod_eq_emod_of_nonneg (b := s) a0
    have ha3 := Int.ediv_nonneg a0 (show 0 ≤ s by omega)
    have ha4 := Int.ediv_le_self s a0
    have ha5 := Int.emod_nonneg a (show s ≠ 0 by omega)
    have ha6 := Int.emod_lt_of_pos a (show 0 < s by omega)
    rcases Int.emod_two_eq (w / 2 ^ j) with hb | hb
    · obtain ⟨g1, g2⟩ := quo_bit (a := a) (s := s) (by omega) j hb
      rw [← hq, ← hr] at g1
      rw [← hr] at g2
      simp only [Int.zero_mul, Int.add_zero] at g1 g2
      have ec := Int.tdiv_eq_ediv_of_nonneg (b := s) (show 0 ≤ 2 * r by omega)
      have ed := Int.tmod_eq_emod_of_nonneg (b := s) (show 0 ≤ 2 * r by omega)
      have he3 := Int.ediv_nonneg (show 0 ≤ 2 * r by omega) (show 0 ≤ s by omega)
      repeat' ((conv => whnf); first | (refine ⟨(by show (0 : Int) ≤ _; omega), ?_⟩; rw [e1']) | (rw [e2', hb]) | (refine ⟨fun h => ?_, fun h => ?_⟩ <;> try (exfalso; first | omega | exact absurd h (by decide) | exact h rfl)) | (refine ⟨⟨by omega, by omega, by omega⟩, ?_⟩; rw [ec]) | (refine ⟨by omega, ?_⟩; rw [ed]) | (refine ⟨(_, _, _), ⟨?_, by (try dsimp only); omega⟩, [], ⟨⟨rfl, rfl⟩, ⟨⟨rfl, rfl⟩, ⟨⟨rfl, rfl⟩, ⟨⟨rfl, rfl⟩, ⟨⟨rfl, rfl⟩, ⟨⟨rfl, rfl⟩, trivial⟩⟩⟩⟩⟩⟩, trivial, rfl, rfl, rfl⟩; (try dsimp only); exact ⟨j, ⟨by omega, by omega⟩, g1.symm, g2.symm⟩) | refine ⟨⟨by omega, by omega⟩, ?_⟩ | fail)
    · obtain ⟨g1, g2⟩ := quo_bit (a := a) (s := s) (by omega) j hb
      rw [← hq, ← hr] at g1
      rw [← hr] at g2
      simp only [Int.one_mul] at g1 g2
      have ec := Int.tdiv_eq_ediv_of_nonneg (b := s) (show 0 ≤ 2 * r + a % s by omega)
      have ed := Int.tmod_eq_emod_of_nonneg (b := s) (show 0 ≤ 2 * r + a % s by omega)
      have he3 := Int.ediv_nonneg (show 0 ≤ 2 * r + a % s by omega) (show 0 ≤ s by omega)
      repeat' ((conv => whnf); first | (refine ⟨(by show (0 : Int) ≤ _; omega), ?_⟩; rw [e1']) | (rw [e2', hb]) | (refine ⟨fun h => ?_, fun h => ?_⟩ <;> try (exfalso; first | omega | exact absurd h (by decide) | exact h rfl)) | (refine ⟨⟨by omega, by omega, by omega⟩, ?_⟩; rw [ea]) | (refine ⟨⟨by omega, by omega, by omega⟩, ?_⟩; rw [ec]) | (refine ⟨by omega, ?_⟩; rw [eb]) | (refine ⟨by omega, ?_⟩; rw [ed]) | (refine ⟨(_, _, _), ⟨?_, by (try dsimp only); omega⟩, [], ⟨⟨rfl, rfl⟩, ⟨⟨rfl, rfl⟩, ⟨⟨rfl, rfl⟩, ⟨⟨rfl, rfl⟩, ⟨⟨rfl, rfl⟩, ⟨⟨rfl, rfl⟩, trivial⟩⟩⟩⟩⟩⟩, trivial, rfl, rfl, rfl⟩; (try dsimp only); exact ⟨j, ⟨by omega, by omega⟩, g1.symm, g2.symm⟩) | refine ⟨⟨by omega, by omega⟩, ?_⟩ | fail)
theorem quo_h : Holds Try.prog 23 quoS := holds_of mix Try.func23 quoLow (fun _ => rfl) quoV

end Go.Proofs.Ytepacknnggnifaa
