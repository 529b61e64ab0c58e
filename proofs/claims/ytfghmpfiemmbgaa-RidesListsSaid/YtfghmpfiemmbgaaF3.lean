/- Rides: the reference's Right, Same, and small ones. -/
import Derived.Test.YtfghmpfiemmbgaaF2
namespace Go.Proofs.Ytfghmpfiemmbgaa
open Go.RowKit

/-! skiarea/skiarearef31.Right -/
def refRightIr : IFn := ⟨34, [.tmp 2],
  (.seq (.ops [
    ⟨(some 2), .mov, [.const (.int .i64 0)], none⟩] false)
  (.seq (.seq (.ops [
    ⟨(some 4), .mov, [.tmp 0], none⟩,
    ⟨(some 5), .len, [.tmp 4], none⟩,
    ⟨(some 6), .cmp .gtr, [.tmp 5, .const (.int .i64 2000)], none⟩] false)
  (.cond (.tmp 6)
    (.seq (.ops [
      ⟨(some 2), .mov, [.const (.int .i64 4)], none⟩] false)
    .ret)
    .skip))
  (.seq (.seq (.ops [
    ⟨(some 3), .mov, [.const (.int .i64 0)], none⟩] false)
  (.block 0
    (.loop
      (.seq (.seq (.ops [
        ⟨(some 7), .mov, [.tmp 3], none⟩,
        ⟨(some 8), .mov, [.tmp 0], none⟩,
        ⟨(some 9), .len, [.tmp 8], none⟩,
        ⟨(some 10), .cmp .lss, [.tmp 7, .tmp 9], none⟩] false)
      (.cond (.tmp 10)
        .skip
        (.exit 0)))
      (.seq (.block 1
        (.seq (.seq (.ops [
          ⟨(some 13), .mov, [.tmp 0], none⟩,
          ⟨(some 14), .mov, [.tmp 3], none⟩,
          ⟨(some 15), .idx 7, [.tmp 13, .tmp 14], none⟩,
          ⟨(some 16), .load 7 true, [.tmp 15], none⟩,
          ⟨(some 17), .call 30, [.tmp 16], none⟩,
          ⟨(some 18), .not, [.tmp 17], none⟩] false)
        (.cond (.tmp 18)
          (.seq (.ops [
            ⟨(some 2), .mov, [.const (.int .i64 2)], none⟩] false)
          .ret)
          .skip))
        (.seq (.ops [
          ⟨(some 19), .mov, [.tmp 3], none⟩,
          ⟨(some 20), .cmp .gtr, [.tmp 19, .const (.int .i64 0)], none⟩,
          ⟨(some 21), .mov, [.tmp 20], none⟩,
          ⟨(some 22), .mov, [.tmp 0], (some (21, true))⟩,
          ⟨(some 23), .mov, [.tmp 3], (some (21, true))⟩,
          ⟨(some 24), .bin .sub .i64 false, [.tmp 23, .const (.int .i64 1)], (some (21, true))⟩,
          ⟨(some 25), .idx 7, [.tmp 22, .tmp 24], (some (21, true))⟩,
          ⟨(some 26), .load 7 true, [.tmp 25], (some (21, true))⟩,
          ⟨(some 27), .mov, [.tmp 0], (some (21, true))⟩,
          ⟨(some 28), .mov, [.tmp 3], (some (21, true))⟩,
          ⟨(some 29), .idx 7, [.tmp 27, .tmp 28], (some (21, true))⟩,
          ⟨(some 30), .load 7 true, [.tmp 29], (some (21, true))⟩,
          ⟨(some 31), .call 31, [.tmp 26, .tmp 30], (some (21, true))⟩,
          ⟨(some 32), .not, [.tmp 31], (some (21, true))⟩,
          ⟨(some 33), .pick, [.tmp 21, .tmp 32, .const (.bool false)], none⟩] true)
        (.cond (.tmp 33)
          (.seq (.ops [
            ⟨(some 2), .mov, [.const (.int .i64 11)], none⟩] false)
          .ret)
          .skip))))
      (.ops [
        ⟨(some 11), .mov, [.tmp 3], none⟩,
        ⟨(some 12), .bin .add .i64 false, [.tmp 11, .const (.int .i64 1)], none⟩,
        ⟨(some 3), .mov, [.tmp 12], none⟩] false))))))
  (.seq (.ops [
    ⟨(some 2), .mov, [.const (.int .i64 0)], none⟩] false)
  .ret))))⟩
theorem refRightLow : lowF Try.prog {} Try.f13 = some refRightIr := by kernel_rfl
def refRightS : Spec := spec (List Ride) (fun l => [L 7 (l.map encR)]) (fun _ => True) (fun l => I (right l))
theorem refRightV : fnV Try.prog refRightIr refRightS := by
  intro (xs : List Ride) hx
  have hl : (xs.map encR).length = xs.length := List.length_map ..
  conv => whnf
  refine ⟨fun h => ?_, fun h => ?_⟩
  · conv => whnf
    refine ⟨[], rfl, trivial, congrArg (CV.int .i64) ?_⟩
    rw [right, if_pos (by omega)]
  have h2 : ¬ 2000 < xs.length := by omega
  conv => whnf
  refine ⟨Nat, fun k => ⟨[(0, L 7 (xs.map encR)), (3, I k)], [], 0⟩, fun k => k ≤ xs.length ∧ RightAt xs k, fun k => xs.length - k, ⟨0, ⟨by omega, none, by simp, by simp, by omega⟩, [], ⟨⟨rfl, rfl⟩, ⟨⟨rfl, rfl⟩, trivial⟩⟩, trivial, rfl, rfl⟩, fun k hk => ?_⟩
  obtain ⟨hk, hr⟩ := hk
  conv => whnf
  refine ⟨fun h => ?_, fun h => ?_⟩
  · conv => whnf
    refine ⟨by omega, fun r hr' => ?_⟩
    obtain ⟨x, hx', rfl⟩ := map_get hr'
    rw [Int.toNat_natCast] at hx'
    conv => whnf
    refine ⟨_, ranges_h, _, trivial, leVs_of_eq rfl, .inr rfl, rfl, ?_⟩
    conv => whnf
    refine ⟨fun ho => ?_, fun ho => ?_⟩
    · replace ho : okR x := of_decide_eq_true ho
      conv => whnf
      refine ⟨fun h0 => ?_, fun h0 => ?_⟩
      · conv => whnf
        refine ⟨⟨by omega, by omega⟩, ?_⟩
        conv => whnf
        refine ⟨by omega, fun r hr'' => ?_⟩
        obtain ⟨y, hy, rfl⟩ := map_get hr''
        rw [show ((k : Int) - 1).toNat = k - 1 by omega] at hy
        obtain ⟨s1, s2⟩ := hr.step hx' hy (by omega) ho h2
        conv => whnf
        refine ⟨by omega, fun r hr3 => ?_⟩
        obtain ⟨x', hx3, rfl⟩ := map_get hr3
        rw [Int.toNat_natCast, hx'] at hx3
        cases hx3
        conv => whnf
        refine ⟨_, before_h, (_, _), trivial, leVs_of_eq rfl, .inr rfl, rfl, ?_⟩
        conv => whnf
        refine ⟨fun hc => ?_, fun hc => ?_⟩
        · conv => whnf
          refine ⟨⟨by omega, by omega⟩, ?_⟩
          conv => whnf
          refine ⟨k + 1, ⟨⟨by omega, s2 (of_decide_eq_true hc)⟩, by dsimp only; omega⟩, [], ⟨⟨rfl, rfl⟩, ⟨⟨rfl, rfl⟩, trivial⟩⟩, trivial, rfl, rfl⟩
        · conv => whnf
          refine ⟨[], rfl, trivial, congrArg (CV.int .i64) ?_⟩
          exact (s1 (of_decide_eq_false hc)).symm
      · have hk0 : k = 0 := by omega
        conv => whnf
        refine ⟨⟨by omega, by omega⟩, ?_⟩
        conv => whnf
        refine ⟨k + 1, ⟨⟨by omega, by subst hk0; exact RightAt.next0 hx' ho⟩, by dsimp only; omega⟩, [], ⟨⟨rfl, rfl⟩, ⟨⟨rfl, rfl⟩, trivial⟩⟩, trivial, rfl, rfl⟩
    · conv => whnf
      refine ⟨[], rfl, trivial, congrArg (CV.int .i64) ?_⟩
      exact (hr.bad hx' (of_decide_eq_false ho) h2).symm
  · conv => whnf
    refine ⟨[], rfl, trivial, congrArg (CV.int .i64) ?_⟩
    exact (hr.done (by omega) h2).symm
theorem refRight_h : Holds Try.prog 13 refRightS := holds_of mix Try.func13 refRightLow (fun _ => rfl) refRightV

def rightB (l : List Ride) : Bool := decide (l.length ≤ 300 ∧ right l = 0)

/-! skiarea/skiarealaw31.right -/
def lrightIr : IFn := ⟨11, [.tmp 2],
  (.seq (.ops [
    ⟨(some 2), .mov, [.const (.bool false)], none⟩] false)
  (.seq (.ops [
    ⟨(some 3), .mov, [.tmp 0], none⟩,
    ⟨(some 4), .len, [.tmp 3], none⟩,
    ⟨(some 5), .cmp .leq, [.tmp 4, .const (.int .i64 300)], none⟩,
    ⟨(some 6), .mov, [.tmp 5], none⟩,
    ⟨(some 7), .mov, [.tmp 0], (some (6, true))⟩,
    ⟨(some 8), .call 13, [.tmp 7], (some (6, true))⟩,
    ⟨(some 9), .cmp .eql, [.tmp 8, .const (.int .i64 0)], (some (6, true))⟩,
    ⟨(some 10), .pick, [.tmp 6, .tmp 9, .const (.bool false)], none⟩,
    ⟨(some 2), .mov, [.tmp 10], none⟩] false)
  .ret))⟩
theorem lrightLow : lowF Try.prog {} Try.f14 = some lrightIr := by kernel_rfl
def lrightS : Spec := spec (List Ride) (fun l => [L 7 (l.map encR)]) (fun _ => True) (fun l => B (rightB l))
theorem lrightV : fnV Try.prog lrightIr lrightS := by
  intro (xs : List Ride) hx
  have hl : (xs.map encR).length = xs.length := List.length_map ..
  conv => whnf
  refine ⟨fun h => ?_, fun h => ?_⟩
  · conv => whnf
    refine ⟨_, refRight_h, _, trivial, leVs_of_eq rfl, .inr rfl, rfl, ?_⟩
    conv => whnf
    refine ⟨fun h0 => ?_, fun h0 => ?_⟩
    · conv => whnf
      refine ⟨[], rfl, trivial, congrArg CV.bool ?_⟩
      exact (decide_eq_true ⟨by omega, h0⟩).symm
    · conv => whnf
      refine ⟨[], rfl, trivial, congrArg CV.bool ?_⟩
      exact (decide_eq_false fun hc => h0 hc.2).symm
  · conv => whnf
    refine ⟨[], rfl, trivial, congrArg CV.bool ?_⟩
    exact (decide_eq_false fun hc => h (by omega)).symm
theorem lright_h : Holds Try.prog 14 lrightS := holds_of mix Try.func14 lrightLow (fun _ => rfl) lrightV

def rideOf (n at_ : Int) : Ride := ⟨2, n, 5, n, 3, 9, at_⟩

/-! skiarea/skiarealaw31.ride -/
def rideIr : IFn := ⟨9, [.cell 4 7 true],
  (.seq (.ops [
    ⟨(some 4), .alloc [.int .i64 0, .int .i64 0, .int .i64 0, .int .i64 0, .int .i64 0, .int .i64 0, .int .i64 0], [], none⟩] false)
  (.seq (.ops [
    ⟨(some 5), .mov, [.tmp 0], none⟩,
    ⟨(some 6), .mov, [.tmp 0], none⟩,
    ⟨(some 7), .mov, [.tmp 1], none⟩,
    ⟨(some 8), .build [.int .i64 0, .int .i64 0, .int .i64 0, .int .i64 0, .int .i64 0, .int .i64 0, .int .i64 0] [(0, 1), (1, 1), (2, 1), (3, 1), (4, 1), (5, 1), (6, 1)], [.const (.int .i64 2), .tmp 5, .const (.int .i64 5), .tmp 6, .const (.int .i64 3), .const (.int .i64 9), .tmp 7], none⟩,
    ⟨none, .store 7, [.tmp 4, .tmp 8], none⟩] false)
  .ret))⟩
theorem rideLow : lowF Try.prog {} Try.f20 = some rideIr := by kernel_rfl
def rideS : Spec := spec (Int × Int) (fun p => [I p.1, I p.2]) (fun _ => True) (fun p => aR (rideOf p.1 p.2))
theorem rideV : fnV Try.prog rideIr rideS := by
  intro ⟨n, k⟩ hx
  conv => whnf
  exact ⟨[], rfl, trivial, (leV_refl (aR (rideOf n k)) : leV (aR (rideOf n k)) (aR (rideOf n k)))⟩
theorem ride_h : Holds Try.prog 20 rideS := holds_of mix Try.func20 rideLow (fun _ => rfl) rideV

end Go.Proofs.Ytfghmpfiemmbgaa
