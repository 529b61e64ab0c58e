/- Rides: Right, and the reference's. -/
import Derived.Test.YtfghmpfiemmbgaaF1
namespace Go.Proofs.Ytfghmpfiemmbgaa
open Go.RowKit

/-! skiarea/rides.Right -/
def rightIr : IFn := ⟨31, [.tmp 2],
  (.seq (.ops [
    ⟨(some 2), .mov, [.const (.int .i64 0)], none⟩] false)
  (.seq (.seq (.ops [
    ⟨(some 5), .mov, [.tmp 0], none⟩,
    ⟨(some 6), .len, [.tmp 5], none⟩,
    ⟨(some 7), .cmp .gtr, [.tmp 6, .const (.int .i64 2000)], none⟩] false)
  (.cond (.tmp 7)
    (.seq (.ops [
      ⟨(some 2), .mov, [.const (.int .i64 4)], none⟩] false)
    .ret)
    .skip))
  (.seq (.seq (.ops [
    ⟨(some 8), .mov, [.tmp 0], none⟩,
    ⟨(some 9), .len, [.tmp 8], none⟩,
    ⟨(some 10), .mov, [.const (.int .i64 0)], none⟩] false)
  (.block 0
    (.loop
      (.seq (.ops [
        ⟨(some 11), .cmp .lss, [.tmp 10, .tmp 9], none⟩] false)
      (.seq (.cond (.tmp 11)
        .skip
        (.exit 0))
      (.seq (.block 1
        (.seq (.ops [
          ⟨(some 12), .mov, [.tmp 10], none⟩,
          ⟨(some 13), .idx 7, [.tmp 8, .tmp 10], none⟩,
          ⟨(some 14), .load 7 true, [.tmp 13], none⟩,
          ⟨(some 4), .alloc [.int .i64 0, .int .i64 0, .int .i64 0, .int .i64 0, .int .i64 0, .int .i64 0, .int .i64 0], [], none⟩,
          ⟨(some 3), .mov, [.tmp 12], none⟩,
          ⟨none, .store 7, [.tmp 4, .tmp 14], none⟩] false)
        (.seq (.seq (.ops [
          ⟨(some 15), .load 7 true, [.tmp 4], none⟩,
          ⟨(some 16), .call 28, [.tmp 15], none⟩,
          ⟨(some 17), .not, [.tmp 16], none⟩] false)
        (.cond (.tmp 17)
          (.seq (.ops [
            ⟨(some 2), .mov, [.const (.int .i64 2)], none⟩] false)
          .ret)
          .skip))
        (.seq (.ops [
          ⟨(some 18), .mov, [.tmp 3], none⟩,
          ⟨(some 19), .cmp .gtr, [.tmp 18, .const (.int .i64 0)], none⟩,
          ⟨(some 20), .mov, [.tmp 19], none⟩,
          ⟨(some 21), .mov, [.tmp 0], (some (20, true))⟩,
          ⟨(some 22), .mov, [.tmp 3], (some (20, true))⟩,
          ⟨(some 23), .bin .sub .i64 false, [.tmp 22, .const (.int .i64 1)], (some (20, true))⟩,
          ⟨(some 24), .idx 7, [.tmp 21, .tmp 23], (some (20, true))⟩,
          ⟨(some 25), .load 7 true, [.tmp 24], (some (20, true))⟩,
          ⟨(some 26), .load 7 true, [.tmp 4], (some (20, true))⟩,
          ⟨(some 27), .call 29, [.tmp 25, .tmp 26], (some (20, true))⟩,
          ⟨(some 28), .cmp .geq, [.tmp 27, .const (.int .i64 0)], (some (20, true))⟩,
          ⟨(some 29), .pick, [.tmp 20, .tmp 28, .const (.bool false)], none⟩] true)
        (.cond (.tmp 29)
          (.seq (.ops [
            ⟨(some 2), .mov, [.const (.int .i64 11)], none⟩] false)
          .ret)
          .skip)))))
      (.ops [
        ⟨(some 30), .bin .add .i64 false, [.tmp 10, .const (.int .i64 1)], none⟩,
        ⟨(some 10), .mov, [.tmp 30], none⟩] false)))))))
  (.seq (.ops [
    ⟨(some 2), .mov, [.const (.int .i64 0)], none⟩] false)
  .ret))))⟩
theorem rightLow : lowF Try.prog {} Try.f12 = some rightIr := by kernel_rfl
def rightS : Spec := spec (List Ride) (fun l => [L 7 (l.map encR)]) (fun _ => True) (fun l => I (right l))
theorem rightV : fnV Try.prog rightIr rightS := by
  intro (xs : List Ride) hx
  have hl : (xs.map encR).length = xs.length := List.length_map ..
  conv => whnf
  refine ⟨fun h => ?_, fun h => ?_⟩
  · conv => whnf
    refine ⟨[], rfl, trivial, congrArg (CV.int .i64) ?_⟩
    rw [right, if_pos (by omega)]
  have h2 : ¬ 2000 < xs.length := by omega
  conv => whnf
  refine ⟨Nat, fun k => ⟨[(0, L 7 (xs.map encR)), (8, L 7 (xs.map encR)), (9, I (xs.map encR).length), (10, I k)], [], 0⟩, fun k => k ≤ xs.length ∧ RightAt xs k, fun k => xs.length - k, ⟨0, ⟨by omega, none, by simp, by simp, by omega⟩, [], ⟨⟨rfl, rfl⟩, ⟨⟨rfl, rfl⟩, ⟨⟨rfl, rfl⟩, ⟨⟨rfl, rfl⟩, trivial⟩⟩⟩⟩, trivial, rfl, rfl⟩, fun k hk => ?_⟩
  obtain ⟨hk, hr⟩ := hk
  conv => whnf
  refine ⟨fun h => ?_, fun h => ?_⟩
  · conv => whnf
    refine ⟨by omega, fun r hr' => ?_⟩
    obtain ⟨x, hx', rfl⟩ := map_get hr'
    rw [Int.toNat_natCast] at hx'
    conv => whnf
    refine ⟨_, inRange_h, _, trivial, leVs_of_eq rfl, .inr rfl, rfl, ?_⟩
    conv => whnf
    refine ⟨fun ho => ?_, fun ho => ?_⟩
    · replace ho : okR x := of_decide_eq_true ho
      conv => whnf
      refine ⟨fun h0 => ?_, fun h0 => ?_⟩
      · conv => whnf
        refine ⟨⟨by omega, by omega⟩, ?_⟩
        conv => whnf
        refine ⟨by omega, fun r hr'' => ?_⟩
        obtain ⟨y, hy, rfl⟩ := map_get hr''
        rw [show ((k : Int) - 1).toNat = k - 1 by omega] at hy
        obtain ⟨s1, s2⟩ := hr.step hx' hy (by omega) ho h2
        conv => whnf
        refine ⟨_, order_h, (_, _), trivial, leVs_of_eq rfl, .inr rfl, rfl, ?_⟩
        conv => whnf
        refine ⟨fun hc => ?_, fun hc => ?_⟩
        · conv => whnf
          refine ⟨[], rfl, trivial, congrArg (CV.int .i64) ?_⟩
          exact (s1 fun hb => by have := (cmpR_lt y x).2 hb; dsimp only at hc; omega).symm
        · conv => whnf
          refine ⟨⟨by omega, by omega⟩, ?_⟩
          conv => whnf
          refine ⟨k + 1, ⟨⟨by omega, s2 ((cmpR_lt y x).1 (by dsimp only at hc; omega))⟩, by dsimp only; omega⟩, [], ⟨⟨rfl, rfl⟩, ⟨⟨rfl, rfl⟩, ⟨⟨rfl, rfl⟩, ⟨⟨rfl, rfl⟩, trivial⟩⟩⟩⟩, trivial, rfl, rfl⟩
      · have hk0 : k = 0 := by omega
        conv => whnf
        refine ⟨⟨by omega, by omega⟩, ?_⟩
        conv => whnf
        refine ⟨k + 1, ⟨⟨by omega, by subst hk0; exact RightAt.next0 hx' ho⟩, by dsimp only; omega⟩, [], ⟨⟨rfl, rfl⟩, ⟨⟨rfl, rfl⟩, ⟨⟨rfl, rfl⟩, ⟨⟨rfl, rfl⟩, trivial⟩⟩⟩⟩, trivial, rfl, rfl⟩
    · conv => whnf
      refine ⟨[], rfl, trivial, congrArg (CV.int .i64) ?_⟩
      exact (hr.bad hx' (of_decide_eq_false ho) h2).symm
  · conv => whnf
    refine ⟨[], rfl, trivial, congrArg (CV.int .i64) ?_⟩
    exact (hr.done (by omega) h2).symm
theorem right_h : Holds Try.prog 12 rightS := holds_of mix Try.func12 rightLow (fun _ => rfl) rightV

end Go.Proofs.Ytfghmpfiemmbgaa
