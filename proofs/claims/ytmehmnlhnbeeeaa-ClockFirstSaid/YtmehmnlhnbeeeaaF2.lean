/- The clock: hours. -/
import Derived.Test.YtmehmnlhnbeeeaaF1
namespace Go.Proofs.Ytmehmnlhnbeeeaa
open Go.RowKit

/-! skiarea/clock.Right -/
def rightIr : IFn := ⟨40, [.tmp 2],
  (.seq (.ops [
    ⟨(some 2), .mov, [.const (.bool false)], none⟩] false)
  (.seq (.seq (.ops [
    ⟨(some 5), .mov, [.tmp 0], none⟩,
    ⟨(some 6), .len, [.tmp 5], none⟩,
    ⟨(some 7), .mov, [.const (.int .i64 0)], none⟩] false)
  (.block 0
    (.loop
      (.seq (.ops [
        ⟨(some 8), .cmp .lss, [.tmp 7, .tmp 6], none⟩] false)
      (.seq (.cond (.tmp 8)
        .skip
        (.exit 0))
      (.seq (.block 1
        (.seq (.ops [
          ⟨(some 9), .idx 3, [.tmp 5, .tmp 7], none⟩,
          ⟨(some 10), .load 3 true, [.tmp 9], none⟩,
          ⟨(some 4), .alloc [.int .i64 0, .int .i64 0, .int .i64 0], [], none⟩,
          ⟨none, .store 3, [.tmp 4, .tmp 10], none⟩] false)
        (.seq (.ops [
          ⟨(some 11), .faddr 0, [.tmp 4], none⟩,
          ⟨(some 12), .load 1 false, [.tmp 11], none⟩,
          ⟨(some 13), .cmp .lss, [.tmp 12, .const (.int .i64 1)], none⟩,
          ⟨(some 14), .mov, [.tmp 13], none⟩,
          ⟨(some 15), .faddr 0, [.tmp 4], (some (14, false))⟩,
          ⟨(some 16), .load 1 false, [.tmp 15], (some (14, false))⟩,
          ⟨(some 17), .cmp .gtr, [.tmp 16, .const (.int .i64 127)], (some (14, false))⟩,
          ⟨(some 18), .pick, [.tmp 14, .const (.bool true), .tmp 17], none⟩,
          ⟨(some 19), .mov, [.tmp 18], none⟩,
          ⟨(some 20), .faddr 1, [.tmp 4], (some (19, false))⟩,
          ⟨(some 21), .load 1 false, [.tmp 20], (some (19, false))⟩,
          ⟨(some 22), .cmp .lss, [.tmp 21, .const (.int .i64 0)], (some (19, false))⟩,
          ⟨(some 23), .pick, [.tmp 19, .const (.bool true), .tmp 22], none⟩,
          ⟨(some 24), .mov, [.tmp 23], none⟩,
          ⟨(some 25), .faddr 1, [.tmp 4], (some (24, false))⟩,
          ⟨(some 26), .load 1 false, [.tmp 25], (some (24, false))⟩,
          ⟨(some 27), .faddr 2, [.tmp 4], (some (24, false))⟩,
          ⟨(some 28), .load 1 false, [.tmp 27], (some (24, false))⟩,
          ⟨(some 29), .cmp .geq, [.tmp 26, .tmp 28], (some (24, false))⟩,
          ⟨(some 30), .pick, [.tmp 24, .const (.bool true), .tmp 29], none⟩,
          ⟨(some 31), .mov, [.tmp 30], none⟩,
          ⟨(some 32), .faddr 2, [.tmp 4], (some (31, false))⟩,
          ⟨(some 33), .load 1 false, [.tmp 32], (some (31, false))⟩,
          ⟨(some 34), .cmp .gtr, [.tmp 33, .const (.int .i64 86400)], (some (31, false))⟩,
          ⟨(some 35), .pick, [.tmp 31, .const (.bool true), .tmp 34], none⟩] false)
        (.cond (.tmp 35)
          (.seq (.ops [
            ⟨(some 2), .mov, [.const (.bool false)], none⟩] false)
          .ret)
          .skip))))
      (.ops [
        ⟨(some 36), .bin .add .i64 false, [.tmp 7, .const (.int .i64 1)], none⟩,
        ⟨(some 7), .mov, [.tmp 36], none⟩] false)))))))
  (.seq (.ops [
    ⟨(some 37), .mov, [.tmp 0], none⟩,
    ⟨(some 38), .len, [.tmp 37], none⟩,
    ⟨(some 39), .cmp .leq, [.tmp 38, .const (.int .i64 16)], none⟩,
    ⟨(some 2), .mov, [.tmp 39], none⟩] false)
  .ret)))⟩
theorem rightLow : lowF Try.prog {} Try.f18 = some rightIr := by kernel_rfl
def rightS : Spec := spec (List Hours) (fun l => [L 3 (l.map encH)]) (fun l => l.length ≤ 9223372036854775807) (fun l => B (rightF l))
theorem rightV : fnV Try.prog rightIr rightS := by
  intro (l : List Hours) hx
  show vc _ _ _ ⟨argEnv 0 [L 3 (l.map encH)], [], 0⟩
  have hl : (l.map encH).length = l.length := List.length_map ..
  replace hx : l.length ≤ 9223372036854775807 := hx
  conv => whnf
  refine ⟨Nat, fun xq => ⟨[(0, L 3 (l.map encH)), (5, L 3 (l.map encH)), (6, I (l.map encH).length), (7, I xq)], [], 0⟩, fun xq => xq ≤ l.length ∧ ∀ y ∈ l.take xq, okH y, fun xq => l.length - xq, ⟨0, ?_, [], ⟨⟨rfl, rfl⟩, ⟨⟨rfl, rfl⟩, ⟨⟨rfl, rfl⟩, ⟨⟨rfl, rfl⟩, trivial⟩⟩⟩⟩, trivial, rfl, rfl⟩, ?_⟩
  · (try dsimp only); exact ⟨Nat.zero_le _, by simp⟩
  rintro k hk
  obtain ⟨hk, hr⟩ : k ≤ l.length ∧ ∀ y ∈ l.take k, okH y := hk
  (try dsimp only)
  by_cases hkl : k < l.length
  · obtain ⟨x, hx⟩ := getElem_some hkl
    repeat' ((conv => whnf); first | (refine ⟨k + 1, ⟨?_, by (try dsimp only); omega⟩, [], ⟨⟨rfl, rfl⟩, ⟨⟨rfl, rfl⟩, ⟨⟨rfl, rfl⟩, ⟨⟨rfl, rfl⟩, trivial⟩⟩⟩⟩, trivial, rfl, rfl⟩; (try dsimp only); exact ⟨by omega, all_step hx hr (by unfold okH; omega)⟩) | (refine ⟨fun h => ?_, fun h => ?_⟩ <;> try (exfalso; first | omega | exact absurd h (by decide) | exact h rfl)) | (refine ⟨by omega, fun r hrr => ?_⟩; obtain rfl := get_row hrr hx) | refine ⟨⟨by omega, by omega⟩, ?_⟩ | refine ⟨[], rfl, trivial, congrArg CV.bool ?_⟩ | fail)
    all_goals exact (right_bad hx (by unfold okH; omega)).symm
  · have ha := all_end hr hkl
    repeat' ((conv => whnf); first | (refine ⟨fun h => ?_, fun h => ?_⟩ <;> try (exfalso; first | omega | exact absurd h (by decide) | exact h rfl)) | refine ⟨⟨by omega, by omega⟩, ?_⟩ | refine ⟨[], rfl, trivial, congrArg CV.bool ?_⟩ | fail)
    all_goals first | exact (decide_eq_true ⟨by omega, ha⟩).symm | exact (decide_eq_false (fun hc => by omega)).symm
theorem right_h : Holds Try.prog 18 rightS := holds_of mix Try.func18 rightLow (fun _ => rfl) rightV

/-! skiarea/skiarearef02.Right -/
def rrightIr : IFn := ⟨56, [.tmp 2],
  (.seq (.ops [
    ⟨(some 2), .mov, [.const (.bool false)], none⟩] false)
  (.seq (.seq (.ops [
    ⟨(some 4), .mov, [.tmp 0], none⟩,
    ⟨(some 5), .len, [.tmp 4], none⟩,
    ⟨(some 6), .cmp .gtr, [.tmp 5, .const (.int .i64 16)], none⟩] false)
  (.cond (.tmp 6)
    (.seq (.ops [
      ⟨(some 2), .mov, [.const (.bool false)], none⟩] false)
    .ret)
    .skip))
  (.seq (.seq (.ops [
    ⟨(some 3), .mov, [.const (.int .i64 0)], none⟩] false)
  (.block 0
    (.loop
      (.seq (.seq (.ops [
        ⟨(some 7), .mov, [.tmp 3], none⟩,
        ⟨(some 8), .mov, [.tmp 0], none⟩,
        ⟨(some 9), .len, [.tmp 8], none⟩,
        ⟨(some 10), .cmp .lss, [.tmp 7, .tmp 9], none⟩] false)
      (.cond (.tmp 10)
        .skip
        (.exit 0)))
      (.seq (.block 1
        (.seq (.ops [
          ⟨(some 13), .mov, [.tmp 0], none⟩,
          ⟨(some 14), .mov, [.tmp 3], none⟩,
          ⟨(some 15), .idx 3, [.tmp 13, .tmp 14], none⟩,
          ⟨(some 16), .faddr 0, [.tmp 15], none⟩,
          ⟨(some 17), .load 1 false, [.tmp 16], none⟩,
          ⟨(some 18), .cmp .lss, [.tmp 17, .const (.int .i64 1)], none⟩,
          ⟨(some 19), .mov, [.tmp 18], none⟩,
          ⟨(some 20), .mov, [.tmp 0], (some (19, false))⟩,
          ⟨(some 21), .mov, [.tmp 3], (some (19, false))⟩,
          ⟨(some 22), .idx 3, [.tmp 20, .tmp 21], (some (19, false))⟩,
          ⟨(some 23), .faddr 0, [.tmp 22], (some (19, false))⟩,
          ⟨(some 24), .load 1 false, [.tmp 23], (some (19, false))⟩,
          ⟨(some 25), .cmp .gtr, [.tmp 24, .const (.int .i64 127)], (some (19, false))⟩,
          ⟨(some 26), .pick, [.tmp 19, .const (.bool true), .tmp 25], none⟩,
          ⟨(some 27), .mov, [.tmp 26], none⟩,
          ⟨(some 28), .mov, [.tmp 0], (some (27, false))⟩,
          ⟨(some 29), .mov, [.tmp 3], (some (27, false))⟩,
          ⟨(some 30), .idx 3, [.tmp 28, .tmp 29], (some (27, false))⟩,
          ⟨(some 31), .faddr 1, [.tmp 30], (some (27, false))⟩,
          ⟨(some 32), .load 1 false, [.tmp 31], (some (27, false))⟩,
          ⟨(some 33), .cmp .lss, [.tmp 32, .const (.int .i64 0)], (some (27, false))⟩,
          ⟨(some 34), .pick, [.tmp 27, .const (.bool true), .tmp 33], none⟩,
          ⟨(some 35), .mov, [.tmp 34], none⟩,
          ⟨(some 36), .mov, [.tmp 0], (some (35, false))⟩,
          ⟨(some 37), .mov, [.tmp 3], (some (35, false))⟩,
          ⟨(some 38), .idx 3, [.tmp 36, .tmp 37], (some (35, false))⟩,
          ⟨(some 39), .faddr 1, [.tmp 38], (some (35, false))⟩,
          ⟨(some 40), .load 1 false, [.tmp 39], (some (35, false))⟩,
          ⟨(some 41), .mov, [.tmp 0], (some (35, false))⟩,
          ⟨(some 42), .mov, [.tmp 3], (some (35, false))⟩,
          ⟨(some 43), .idx 3, [.tmp 41, .tmp 42], (some (35, false))⟩,
          ⟨(some 44), .faddr 2, [.tmp 43], (some (35, false))⟩,
          ⟨(some 45), .load 1 false, [.tmp 44], (some (35, false))⟩,
          ⟨(some 46), .cmp .geq, [.tmp 40, .tmp 45], (some (35, false))⟩,
          ⟨(some 47), .pick, [.tmp 35, .const (.bool true), .tmp 46], none⟩,
          ⟨(some 48), .mov, [.tmp 47], none⟩,
          ⟨(some 49), .mov, [.tmp 0], (some (48, false))⟩,
          ⟨(some 50), .mov, [.tmp 3], (some (48, false))⟩,
          ⟨(some 51), .idx 3, [.tmp 49, .tmp 50], (some (48, false))⟩,
          ⟨(some 52), .faddr 2, [.tmp 51], (some (48, false))⟩,
          ⟨(some 53), .load 1 false, [.tmp 52], (some (48, false))⟩,
          ⟨(some 54), .cmp .gtr, [.tmp 53, .const (.int .i64 86400)], (some (48, false))⟩,
          ⟨(some 55), .pick, [.tmp 48, .const (.bool true), .tmp 54], none⟩] true)
        (.cond (.tmp 55)
          (.seq (.ops [
            ⟨(some 2), .mov, [.const (.bool false)], none⟩] false)
          .ret)
          .skip)))
      (.ops [
        ⟨(some 11), .mov, [.tmp 3], none⟩,
        ⟨(some 12), .bin .add .i64 false, [.tmp 11, .const (.int .i64 1)], none⟩,
        ⟨(some 3), .mov, [.tmp 12], none⟩] false))))))
  (.seq (.ops [
    ⟨(some 2), .mov, [.const (.bool true)], none⟩] false)
  .ret))))⟩
theorem rrightLow : lowF Try.prog {} Try.f19 = some rrightIr := by kernel_rfl
def rrightS : Spec := spec (List Hours) (fun l => [L 3 (l.map encH)]) (fun l => l.length ≤ 9223372036854775807) (fun l => B (rightF l))
theorem rrightV : fnV Try.prog rrightIr rrightS := by
  intro (l : List Hours) hx
  show vc _ _ _ ⟨argEnv 0 [L 3 (l.map encH)], [], 0⟩
  have hl : (l.map encH).length = l.length := List.length_map ..
  replace hx : l.length ≤ 9223372036854775807 := hx
  conv => whnf
  refine ⟨fun h => ?_, fun h => ?_⟩
  · conv => whnf
    refine ⟨[], rfl, trivial, congrArg CV.bool ?_⟩
    exact (decide_eq_false (fun hc => by omega)).symm
  conv => whnf
  refine ⟨Nat, fun xq => ⟨[(0, L 3 (l.map encH)), (3, I xq)], [], 0⟩, fun xq => xq ≤ l.length ∧ ∀ y ∈ l.take xq, okH y, fun xq => l.length - xq, ⟨0, ?_, [], ⟨⟨rfl, rfl⟩, ⟨⟨rfl, rfl⟩, trivial⟩⟩, trivial, rfl, rfl⟩, ?_⟩
  · (try dsimp only); exact ⟨Nat.zero_le _, by simp⟩
  rintro k hk
  obtain ⟨hk, hr⟩ : k ≤ l.length ∧ ∀ y ∈ l.take k, okH y := hk
  (try dsimp only)
  by_cases hkl : k < l.length
  · obtain ⟨x, hx⟩ := getElem_some hkl
    repeat' ((conv => whnf); first | (refine ⟨k + 1, ⟨?_, by (try dsimp only); omega⟩, [], ⟨⟨rfl, rfl⟩, ⟨⟨rfl, rfl⟩, trivial⟩⟩, trivial, rfl, rfl⟩; (try dsimp only); exact ⟨by omega, all_step hx hr (by unfold okH; omega)⟩) | (refine ⟨fun h => ?_, fun h => ?_⟩ <;> try (exfalso; first | omega | exact absurd h (by decide) | exact h rfl)) | (refine ⟨by omega, fun r hrr => ?_⟩; obtain rfl := get_row hrr hx) | refine ⟨⟨by omega, by omega⟩, ?_⟩ | refine ⟨[], rfl, trivial, congrArg CV.bool ?_⟩ | fail)
    all_goals exact (right_bad hx (by unfold okH; omega)).symm
  · have ha := all_end hr hkl
    repeat' ((conv => whnf); first | (refine ⟨fun h => ?_, fun h => ?_⟩ <;> try (exfalso; first | omega | exact absurd h (by decide) | exact h rfl)) | refine ⟨⟨by omega, by omega⟩, ?_⟩ | refine ⟨[], rfl, trivial, congrArg CV.bool ?_⟩ | fail)
    all_goals first | exact (decide_eq_true ⟨by omega, ha⟩).symm | exact (decide_eq_false (fun hc => by omega)).symm
theorem rright_h : Holds Try.prog 19 rrightS := holds_of mix Try.func19 rrightLow (fun _ => rfl) rrightV

/-! skiarea/clock.In -/
def innIr : IFn := ⟨35, [.tmp 4],
  (.seq (.ops [
    ⟨(some 4), .mov, [.const (.bool false)], none⟩] false)
  (.seq (.seq (.ops [
    ⟨(some 7), .mov, [.tmp 1], none⟩,
    ⟨(some 8), .call 35, [.tmp 7], none⟩,
    ⟨(some 9), .not, [.tmp 8], none⟩] false)
  (.cond (.tmp 9)
    (.seq (.ops [
      ⟨(some 4), .mov, [.const (.bool false)], none⟩] false)
    .ret)
    .skip))
  (.seq (.seq (.ops [
    ⟨(some 10), .mov, [.tmp 0], none⟩,
    ⟨(some 11), .len, [.tmp 10], none⟩,
    ⟨(some 12), .mov, [.const (.int .i64 0)], none⟩] false)
  (.block 0
    (.loop
      (.seq (.ops [
        ⟨(some 13), .cmp .lss, [.tmp 12, .tmp 11], none⟩] false)
      (.seq (.cond (.tmp 13)
        .skip
        (.exit 0))
      (.seq (.block 1
        (.seq (.ops [
          ⟨(some 14), .idx 3, [.tmp 10, .tmp 12], none⟩,
          ⟨(some 15), .load 3 true, [.tmp 14], none⟩,
          ⟨(some 6), .alloc [.int .i64 0, .int .i64 0, .int .i64 0], [], none⟩,
          ⟨none, .store 3, [.tmp 6, .tmp 15], none⟩] false)
        (.seq (.ops [
          ⟨(some 16), .load 3 true, [.tmp 6], none⟩,
          ⟨(some 17), .mov, [.tmp 1], none⟩,
          ⟨(some 18), .call 12, [.tmp 17], none⟩,
          ⟨(some 19), .call 37, [.tmp 16, .tmp 18], none⟩,
          ⟨(some 20), .mov, [.tmp 19], none⟩,
          ⟨(some 21), .faddr 1, [.tmp 6], (some (20, true))⟩,
          ⟨(some 22), .load 1 false, [.tmp 21], (some (20, true))⟩,
          ⟨(some 23), .mov, [.tmp 1], (some (20, true))⟩,
          ⟨(some 24), .call 14, [.tmp 23], (some (20, true))⟩,
          ⟨(some 25), .cmp .leq, [.tmp 22, .tmp 24], (some (20, true))⟩,
          ⟨(some 26), .pick, [.tmp 20, .tmp 25, .const (.bool false)], none⟩,
          ⟨(some 27), .mov, [.tmp 26], none⟩,
          ⟨(some 28), .mov, [.tmp 1], (some (27, true))⟩,
          ⟨(some 29), .call 14, [.tmp 28], (some (27, true))⟩,
          ⟨(some 30), .faddr 2, [.tmp 6], (some (27, true))⟩,
          ⟨(some 31), .load 1 false, [.tmp 30], (some (27, true))⟩,
          ⟨(some 32), .cmp .lss, [.tmp 29, .tmp 31], (some (27, true))⟩,
          ⟨(some 33), .pick, [.tmp 27, .tmp 32, .const (.bool false)], none⟩] true)
        (.cond (.tmp 33)
          (.seq (.ops [
            ⟨(some 4), .mov, [.const (.bool true)], none⟩] false)
          .ret)
          .skip))))
      (.ops [
        ⟨(some 34), .bin .add .i64 false, [.tmp 12, .const (.int .i64 1)], none⟩,
        ⟨(some 12), .mov, [.tmp 34], none⟩] false)))))))
  (.seq (.ops [
    ⟨(some 4), .mov, [.const (.bool false)], none⟩] false)
  .ret))))⟩
theorem innLow : lowF Try.prog {} Try.f20 = some innIr := by kernel_rfl
def innS : Spec := spec (List Hours × Int) (fun p => [L 3 (p.1.map encH), I p.2]) (fun p => p.1.length ≤ 9223372036854775807) (fun p => B (decide (inP p.1 p.2)))
theorem innV : fnV Try.prog innIr innS := by
  intro ⟨(l : List Hours), (t : Int)⟩ hx
  replace hx : l.length ≤ 9223372036854775807 := hx
  show vc _ _ _ ⟨argEnv 0 [L 3 (l.map encH), I t], [], 0⟩
  have hl : (l.map encH).length = l.length := List.length_map ..
  by_cases ht : isT t
  · have g1 := ht.1
    have g2 := ht.2
    repeat' ((conv => whnf); first | (refine ⟨fun h => ?_, fun h => ?_⟩ <;> try (exfalso; first | omega | exact absurd h (by decide) | exact h rfl)) | (refine ⟨_, isTime_h, t, trivial, leVs_of_eq rfl, .inl rfl, rfl, ?_⟩; show norm (B (decide (isT t))) _; rw [decide_eq_true ht]) | fail)
    conv => whnf
    refine ⟨Nat, fun xq => ⟨[(1, I t), (10, L 3 (l.map encH)), (11, I (l.map encH).length), (12, I xq)], [], 0⟩, fun xq => xq ≤ l.length ∧ ∀ y ∈ l.take xq, ¬ open1 y t, fun xq => l.length - xq, ⟨0, ?_, [], ⟨⟨rfl, rfl⟩, ⟨⟨rfl, rfl⟩, ⟨⟨rfl, rfl⟩, ⟨⟨rfl, rfl⟩, trivial⟩⟩⟩⟩, trivial, rfl, rfl⟩, ?_⟩
    · (try dsimp only); exact ⟨Nat.zero_le _, by simp⟩
    rintro k hk
    obtain ⟨hk, hr⟩ : k ≤ l.length ∧ ∀ y ∈ l.take k, ¬ open1 y t := hk
    (try dsimp only)
    by_cases hkl : k < l.length
    · obtain ⟨x, hx⟩ := getElem_some hkl
      by_cases hon : onF x.days (t / 86400 % 7)
      · repeat' ((conv => whnf); first | (refine ⟨k + 1, ⟨?_, by (try dsimp only); omega⟩, [], ⟨⟨rfl, rfl⟩, ⟨⟨rfl, rfl⟩, ⟨⟨rfl, rfl⟩, ⟨⟨rfl, rfl⟩, trivial⟩⟩⟩⟩, trivial, rfl, rfl⟩; (try dsimp only); exact ⟨by omega, all_step hx hr (fun hc => by have := hc.2; omega)⟩) | (refine ⟨fun h => ?_, fun h => ?_⟩ <;> try (exfalso; first | omega | exact absurd h (by decide) | exact h rfl)) | (refine ⟨by omega, fun r hrr => ?_⟩; obtain rfl := get_row hrr hx) | (refine ⟨_, day_h, t, trivial, leVs_of_eq rfl, .inl rfl, rfl, ?_⟩; show norm (I (dayF t)) _; rw [day_eq ht]) | (refine ⟨_, on_h, (x, t / 86400), (by show _ ≤ _; omega), leVs_of_eq rfl, .inl rfl, rfl, ?_⟩; show norm (B (decide (onF x.days (t / 86400 % 7)))) _; rw [decide_eq_true hon]) | (refine ⟨_, sec_h, t, trivial, leVs_of_eq rfl, .inl rfl, rfl, ?_⟩; show norm (I (secF t)) _; rw [sec_eq ht]) | refine ⟨⟨by omega, by omega⟩, ?_⟩ | refine ⟨[], rfl, trivial, congrArg CV.bool ?_⟩ | fail)
        all_goals exact (decide_eq_true (in_yes ht hx ⟨hon, by omega, by omega⟩)).symm
      · repeat' ((conv => whnf); first | (refine ⟨k + 1, ⟨?_, by (try dsimp only); omega⟩, [], ⟨⟨rfl, rfl⟩, ⟨⟨rfl, rfl⟩, ⟨⟨rfl, rfl⟩, ⟨⟨rfl, rfl⟩, trivial⟩⟩⟩⟩, trivial, rfl, rfl⟩; (try dsimp only); exact ⟨by omega, all_step hx hr (fun hc => hon hc.1)⟩) | (refine ⟨fun h => ?_, fun h => ?_⟩ <;> try (exfalso; first | omega | exact absurd h (by decide) | exact h rfl)) | (refine ⟨by omega, fun r hrr => ?_⟩; obtain rfl := get_row hrr hx) | (refine ⟨_, day_h, t, trivial, leVs_of_eq rfl, .inl rfl, rfl, ?_⟩; show norm (I (dayF t)) _; rw [day_eq ht]) | (refine ⟨_, on_h, (x, t / 86400), (by show _ ≤ _; omega), leVs_of_eq rfl, .inl rfl, rfl, ?_⟩; show norm (B (decide (onF x.days (t / 86400 % 7)))) _; rw [decide_eq_false hon]) | (refine ⟨_, sec_h, t, trivial, leVs_of_eq rfl, .inl rfl, rfl, ?_⟩; show norm (I (secF t)) _; rw [sec_eq ht]) | refine ⟨⟨by omega, by omega⟩, ?_⟩ | refine ⟨[], rfl, trivial, congrArg CV.bool ?_⟩ | fail)
    · have ha := all_end hr hkl
      repeat' ((conv => whnf); first | (refine ⟨fun h => ?_, fun h => ?_⟩ <;> try (exfalso; first | omega | exact absurd h (by decide) | exact h rfl)) | refine ⟨[], rfl, trivial, congrArg CV.bool ?_⟩ | fail)
      all_goals exact (decide_eq_false (in_no ha)).symm
  · repeat' ((conv => whnf); first | (refine ⟨fun h => ?_, fun h => ?_⟩ <;> try (exfalso; first | omega | exact absurd h (by decide) | exact h rfl)) | (refine ⟨_, isTime_h, t, trivial, leVs_of_eq rfl, .inl rfl, rfl, ?_⟩; show norm (B (decide (isT t))) _; rw [decide_eq_false ht]) | refine ⟨[], rfl, trivial, congrArg CV.bool ?_⟩ | fail)
    exact (decide_eq_false fun hc => ht hc.1).symm
theorem inn_h : Holds Try.prog 20 innS := holds_of mix Try.func20 innLow (fun _ => rfl) innV

/-! skiarea/skiarearef02.In -/
def rinIr : IFn := ⟨43, [.tmp 4],
  (.seq (.ops [
    ⟨(some 4), .mov, [.const (.bool false)], none⟩] false)
  (.seq (.seq (.ops [
    ⟨(some 6), .mov, [.tmp 1], none⟩,
    ⟨(some 7), .call 36, [.tmp 6], none⟩,
    ⟨(some 8), .not, [.tmp 7], none⟩] false)
  (.cond (.tmp 8)
    (.seq (.ops [
      ⟨(some 4), .mov, [.const (.bool false)], none⟩] false)
    .ret)
    .skip))
  (.seq (.seq (.ops [
    ⟨(some 5), .mov, [.const (.int .i64 0)], none⟩] false)
  (.block 0
    (.loop
      (.seq (.seq (.ops [
        ⟨(some 9), .mov, [.tmp 5], none⟩,
        ⟨(some 10), .mov, [.tmp 0], none⟩,
        ⟨(some 11), .len, [.tmp 10], none⟩,
        ⟨(some 12), .cmp .lss, [.tmp 9, .tmp 11], none⟩] false)
      (.cond (.tmp 12)
        .skip
        (.exit 0)))
      (.seq (.block 1
        (.seq (.ops [
          ⟨(some 15), .mov, [.tmp 0], none⟩,
          ⟨(some 16), .mov, [.tmp 5], none⟩,
          ⟨(some 17), .idx 3, [.tmp 15, .tmp 16], none⟩,
          ⟨(some 18), .faddr 0, [.tmp 17], none⟩,
          ⟨(some 19), .load 1 false, [.tmp 18], none⟩,
          ⟨(some 20), .mov, [.tmp 1], none⟩,
          ⟨(some 21), .call 17, [.tmp 20], none⟩,
          ⟨(some 22), .call 38, [.tmp 19, .tmp 21], none⟩,
          ⟨(some 23), .mov, [.tmp 22], none⟩,
          ⟨(some 24), .mov, [.tmp 0], (some (23, true))⟩,
          ⟨(some 25), .mov, [.tmp 5], (some (23, true))⟩,
          ⟨(some 26), .idx 3, [.tmp 24, .tmp 25], (some (23, true))⟩,
          ⟨(some 27), .faddr 1, [.tmp 26], (some (23, true))⟩,
          ⟨(some 28), .load 1 false, [.tmp 27], (some (23, true))⟩,
          ⟨(some 29), .mov, [.tmp 1], (some (23, true))⟩,
          ⟨(some 30), .call 15, [.tmp 29], (some (23, true))⟩,
          ⟨(some 31), .cmp .leq, [.tmp 28, .tmp 30], (some (23, true))⟩,
          ⟨(some 32), .pick, [.tmp 23, .tmp 31, .const (.bool false)], none⟩,
          ⟨(some 33), .mov, [.tmp 32], none⟩,
          ⟨(some 34), .mov, [.tmp 1], (some (33, true))⟩,
          ⟨(some 35), .call 15, [.tmp 34], (some (33, true))⟩,
          ⟨(some 36), .mov, [.tmp 0], (some (33, true))⟩,
          ⟨(some 37), .mov, [.tmp 5], (some (33, true))⟩,
          ⟨(some 38), .idx 3, [.tmp 36, .tmp 37], (some (33, true))⟩,
          ⟨(some 39), .faddr 2, [.tmp 38], (some (33, true))⟩,
          ⟨(some 40), .load 1 false, [.tmp 39], (some (33, true))⟩,
          ⟨(some 41), .cmp .lss, [.tmp 35, .tmp 40], (some (33, true))⟩,
          ⟨(some 42), .pick, [.tmp 33, .tmp 41, .const (.bool false)], none⟩] true)
        (.cond (.tmp 42)
          (.seq (.ops [
            ⟨(some 4), .mov, [.const (.bool true)], none⟩] false)
          .ret)
          .skip)))
      (.ops [
        ⟨(some 13), .mov, [.tmp 5], none⟩,
        ⟨(some 14), .bin .add .i64 false, [.tmp 13, .const (.int .i64 1)], none⟩,
        ⟨(some 5), .mov, [.tmp 14], none⟩] false))))))
  (.seq (.ops [
    ⟨(some 4), .mov, [.const (.bool false)], none⟩] false)
  .ret))))⟩
theorem rinLow : lowF Try.prog {} Try.f21 = some rinIr := by kernel_rfl
def rinS : Spec := spec (List Hours × Int) (fun p => [L 3 (p.1.map encH), I p.2]) (fun p => p.1.length ≤ 9223372036854775807) (fun p => B (decide (inP p.1 p.2)))
theorem rinV : fnV Try.prog rinIr rinS := by
  intro ⟨(l : List Hours), (t : Int)⟩ hx
  replace hx : l.length ≤ 9223372036854775807 := hx
  show vc _ _ _ ⟨argEnv 0 [L 3 (l.map encH), I t], [], 0⟩
  have hl : (l.map encH).length = l.length := List.length_map ..
  by_cases ht : isT t
  · have g1 := ht.1
    have g2 := ht.2
    repeat' ((conv => whnf); first | (refine ⟨fun h => ?_, fun h => ?_⟩ <;> try (exfalso; first | omega | exact absurd h (by decide) | exact h rfl)) | (refine ⟨_, time_h, t, trivial, leVs_of_eq rfl, .inl rfl, rfl, ?_⟩; show norm (B (decide (isT t))) _; rw [decide_eq_true ht]) | fail)
    conv => whnf
    refine ⟨Nat, fun xq => ⟨[(0, L 3 (l.map encH)), (1, I t), (5, I xq)], [], 0⟩, fun xq => xq ≤ l.length ∧ ∀ y ∈ l.take xq, ¬ open1 y t, fun xq => l.length - xq, ⟨0, ?_, [], ⟨⟨rfl, rfl⟩, ⟨⟨rfl, rfl⟩, ⟨⟨rfl, rfl⟩, trivial⟩⟩⟩, trivial, rfl, rfl⟩, ?_⟩
    · (try dsimp only); exact ⟨Nat.zero_le _, by simp⟩
    rintro k hk
    obtain ⟨hk, hr⟩ : k ≤ l.length ∧ ∀ y ∈ l.take k, ¬ open1 y t := hk
    (try dsimp only)
    by_cases hkl : k < l.length
    · obtain ⟨x, hx⟩ := getElem_some hkl
      by_cases hon : onF x.days (t / 86400 % 7)
      · repeat' ((conv => whnf); first | (refine ⟨k + 1, ⟨?_, by (try dsimp only); omega⟩, [], ⟨⟨rfl, rfl⟩, ⟨⟨rfl, rfl⟩, ⟨⟨rfl, rfl⟩, trivial⟩⟩⟩, trivial, rfl, rfl⟩; (try dsimp only); exact ⟨by omega, all_step hx hr (fun hc => by have := hc.2; omega)⟩) | (refine ⟨fun h => ?_, fun h => ?_⟩ <;> try (exfalso; first | omega | exact absurd h (by decide) | exact h rfl)) | (refine ⟨by omega, fun r hrr => ?_⟩; obtain rfl := get_row hrr hx) | (refine ⟨_, rwd_h, t, trivial, leVs_of_eq rfl, .inl rfl, rfl, ?_⟩; show norm (I (wdF t)) _; rw [wd_eq ht]) | (refine ⟨_, ron_h, (x.days, t / 86400 % 7), (by show _ ∧ _; omega), leVs_of_eq rfl, .inl rfl, rfl, ?_⟩; show norm (B (decide (onF x.days (t / 86400 % 7)))) _; rw [decide_eq_true hon]) | (refine ⟨_, rsec_h, t, trivial, leVs_of_eq rfl, .inl rfl, rfl, ?_⟩; show norm (I (secF t)) _; rw [sec_eq ht]) | refine ⟨⟨by omega, by omega⟩, ?_⟩ | refine ⟨[], rfl, trivial, congrArg CV.bool ?_⟩ | fail)
        all_goals exact (decide_eq_true (in_yes ht hx ⟨hon, by omega, by omega⟩)).symm
      · repeat' ((conv => whnf); first | (refine ⟨k + 1, ⟨?_, by (try dsimp only); omega⟩, [], ⟨⟨rfl, rfl⟩, ⟨⟨rfl, rfl⟩, ⟨⟨rfl, rfl⟩, trivial⟩⟩⟩, trivial, rfl, rfl⟩; (try dsimp only); exact ⟨by omega, all_step hx hr (fun hc => hon hc.1)⟩) | (refine ⟨fun h => ?_, fun h => ?_⟩ <;> try (exfalso; first | omega | exact absurd h (by decide) | exact h rfl)) | (refine ⟨by omega, fun r hrr => ?_⟩; obtain rfl := get_row hrr hx) | (refine ⟨_, rwd_h, t, trivial, leVs_of_eq rfl, .inl rfl, rfl, ?_⟩; show norm (I (wdF t)) _; rw [wd_eq ht]) | (refine ⟨_, ron_h, (x.days, t / 86400 % 7), (by show _ ∧ _; omega), leVs_of_eq rfl, .inl rfl, rfl, ?_⟩; show norm (B (decide (onF x.days (t / 86400 % 7)))) _; rw [decide_eq_false hon]) | (refine ⟨_, rsec_h, t, trivial, leVs_of_eq rfl, .inl rfl, rfl, ?_⟩; show norm (I (secF t)) _; rw [sec_eq ht]) | refine ⟨⟨by omega, by omega⟩, ?_⟩ | refine ⟨[], rfl, trivial, congrArg CV.bool ?_⟩ | fail)
    · have ha := all_end hr hkl
      repeat' ((conv => whnf); first | (refine ⟨fun h => ?_, fun h => ?_⟩ <;> try (exfalso; first | omega | exact absurd h (by decide) | exact h rfl)) | refine ⟨[], rfl, trivial, congrArg CV.bool ?_⟩ | fail)
      all_goals exact (decide_eq_false (in_no ha)).symm
  · repeat' ((conv => whnf); first | (refine ⟨fun h => ?_, fun h => ?_⟩ <;> try (exfalso; first | omega | exact absurd h (by decide) | exact h rfl)) | (refine ⟨_, time_h, t, trivial, leVs_of_eq rfl, .inl rfl, rfl, ?_⟩; show norm (B (decide (isT t))) _; rw [decide_eq_false ht]) | refine ⟨[], rfl, trivial, congrArg CV.bool ?_⟩ | fail)
    exact (decide_eq_false fun hc => ht hc.1).symm
theorem rin_h : Holds Try.prog 21 rinS := holds_of mix Try.func21 rinLow (fun _ => rfl) rinV

end Go.Proofs.Ytmehmnlhnbeeeaa
