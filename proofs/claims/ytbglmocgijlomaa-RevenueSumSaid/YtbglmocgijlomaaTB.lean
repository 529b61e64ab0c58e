/- Tariffs: the points of a ride. -/
import Derived.Test.YtbglmocgijlomaaT9
namespace Go.Proofs.Ytbglmocgijlomaa
open Go.RowKit

/-! skiarea/skiarearef33.Points -/
def rptsIr : IFn := ⟨49, [.tmp 4],
  (.seq (.ops [
    ⟨(some 3), .box, [.tmp 1], none⟩,
    ⟨(some 4), .mov, [.const (.int .i64 0)], none⟩] false)
  (.seq (.ops [
    ⟨(some 10), .mov, [.tmp 0], none⟩,
    ⟨(some 11), .faddr 6, [.tmp 3], none⟩,
    ⟨(some 12), .load 1 false, [.tmp 11], none⟩,
    ⟨(some 13), .call 49, [.tmp 10, .tmp 12], none⟩,
    ⟨(some 9), .mov, [.tmp 13], none⟩,
    ⟨(some 14), .extract 0, [.tmp 9], none⟩,
    ⟨(some 15), .extract 1, [.tmp 9], none⟩,
    ⟨(some 5), .alloc [.int .i64 0, .nil], [], none⟩,
    ⟨none, .store 2, [.tmp 5, .tmp 14], none⟩,
    ⟨(some 6), .mov, [.tmp 15], none⟩] false)
  (.seq (.seq (.ops [
    ⟨(some 7), .mov, [.const (.int .i64 0)], none⟩] false)
  (.block 0
    (.loop
      (.seq (.seq (.ops [
        ⟨(some 16), .mov, [.tmp 7], none⟩,
        ⟨(some 17), .faddr 1, [.tmp 5], none⟩,
        ⟨(some 18), .load 1 false, [.tmp 17], none⟩,
        ⟨(some 19), .len, [.tmp 18], none⟩,
        ⟨(some 20), .cmp .lss, [.tmp 16, .tmp 19], none⟩] false)
      (.cond (.tmp 20)
        .skip
        (.exit 0)))
      (.seq (.block 1
        (.seq (.ops [
          ⟨(some 23), .faddr 1, [.tmp 5], none⟩,
          ⟨(some 24), .load 1 false, [.tmp 23], none⟩,
          ⟨(some 25), .mov, [.tmp 7], none⟩,
          ⟨(some 26), .idx 4, [.tmp 24, .tmp 25], none⟩,
          ⟨(some 27), .load 4 true, [.tmp 26], none⟩,
          ⟨(some 8), .alloc [.int .i64 0, .int .i64 0, .int .i64 0, .nil], [], none⟩,
          ⟨none, .store 4, [.tmp 8, .tmp 27], none⟩] false)
        (.seq (.ops [
          ⟨(some 28), .faddr 0, [.tmp 8], none⟩,
          ⟨(some 29), .load 1 false, [.tmp 28], none⟩,
          ⟨(some 30), .faddr 5, [.tmp 3], none⟩,
          ⟨(some 31), .load 1 false, [.tmp 30], none⟩,
          ⟨(some 32), .cmp .eql, [.tmp 29, .tmp 31], none⟩] false)
        (.cond (.tmp 32)
          (.seq (.seq (.ops [
            ⟨(some 33), .faddr 3, [.tmp 8], none⟩,
            ⟨(some 34), .load 1 false, [.tmp 33], none⟩,
            ⟨(some 35), .faddr 6, [.tmp 3], none⟩,
            ⟨(some 36), .load 1 false, [.tmp 35], none⟩,
            ⟨(some 37), .call 50, [.tmp 34, .tmp 36], none⟩] false)
          (.cond (.tmp 37)
            (.seq (.ops [
              ⟨(some 38), .faddr 1, [.tmp 8], none⟩,
              ⟨(some 39), .load 1 false, [.tmp 38], none⟩,
              ⟨(some 40), .faddr 1, [.tmp 8], none⟩,
              ⟨(some 41), .load 1 false, [.tmp 40], none⟩,
              ⟨(some 42), .faddr 2, [.tmp 8], none⟩,
              ⟨(some 43), .load 1 false, [.tmp 42], none⟩,
              ⟨(some 44), .bin .mul .i64 false, [.tmp 41, .tmp 43], none⟩,
              ⟨(some 45), .bin .quo .i64 false, [.tmp 44, .const (.int .i64 1000)], none⟩,
              ⟨(some 46), .bin .add .i64 false, [.tmp 39, .tmp 45], none⟩,
              ⟨(some 4), .mov, [.tmp 46], none⟩] false)
            .ret)
            .skip))
          (.seq (.ops [
            ⟨(some 47), .faddr 1, [.tmp 8], none⟩,
            ⟨(some 48), .load 1 false, [.tmp 47], none⟩,
            ⟨(some 4), .mov, [.tmp 48], none⟩] false)
          .ret))
          .skip))))
      (.ops [
        ⟨(some 21), .mov, [.tmp 7], none⟩,
        ⟨(some 22), .bin .add .i64 false, [.tmp 21, .const (.int .i64 1)], none⟩,
        ⟨(some 7), .mov, [.tmp 22], none⟩] false))))))
  (.seq (.ops [
    ⟨(some 4), .mov, [.const (.int .i64 0)], none⟩] false)
  .ret))))⟩
theorem rptsLow : lowF Try.prog {} Try.f32 = some rptsIr := by kernel_rfl
def rptsS : Spec := spec (List Tariff × Ride) (fun p => [L 2 (p.1.map encT), aD p.2]) (fun p => p.1.length ≤ 1000000 ∧ Rates p.1) (fun p => I (ptsF p.1 p.2))
theorem rptsV : fnV Try.prog rptsIr rptsS := by
  intro ⟨(l : List Tariff), (r : Ride)⟩ hx
  obtain ⟨hll, hR⟩ : l.length ≤ 1000000 ∧ Rates l := hx
  show vc _ _ _ _ ⟨argEnv 0 [L 2 (l.map encT), aD r], [], 0⟩
  obtain ⟨T, b, hT, hrl, hrt, hpt⟩ : ∃ (T : Tariff) (b : Bool), foundT encT tar0 (tarAt l r.time l.length) = .tup [.agg ((encT T).map .c), B b] ∧ T.rates.length ≤ 32 ∧ (∀ y ∈ T.rates, (0 ≤ y.p ∧ y.p ≤ 10000) ∧ (0 ≤ y.x ∧ y.x ≤ 1000) ∧ y.peak.length ≤ 16) ∧ ptsF l r = ptsR T.rates r.lift r.time := by
    rcases last_at l r.time l.length with ⟨_, h⟩ | ⟨i, ⟨hi, _⟩, h⟩
    · exact ⟨tar0, false, by rw [h]; rfl, by decide, by simp [tar0], by unfold ptsF; rw [h]; rfl⟩
    · obtain ⟨x, hx⟩ := getElem_some hi
      have := hR x (List.mem_of_getElem? hx)
      exact ⟨x, true, by rw [h, at_of hx]; rfl, this.1, this.2, by unfold ptsF; rw [h, at_of hx]⟩
  have hlr : (T.rates.map encR).length = T.rates.length := List.length_map ..
  cases b
  all_goals
    repeat' ((conv => whnf); first | (refine ⟨fun h => ?_, fun h => ?_⟩ <;> try (exfalso; first | omega | exact absurd h (by decide) | exact h rfl)) | (refine ⟨_, rat_h, (l, r.time), hll, leVs_of_eq rfl, .inl rfl, rfl, ?_⟩; show norm (foundT encT tar0 (tarAt l r.time l.length)) _; rw [hT]) | fail | fail)
    refine ⟨Nat, fun xq => ⟨[(3, .bp 0 0), (5, .bp 1 0), (7, I xq)], [(0, .box ((encD r).map .c)), (1, .box ((encT T).map .c))], 2⟩, fun xq => xq ≤ T.rates.length ∧ ∀ y ∈ T.rates.take xq, decide (y.l = r.lift) = false, fun xq => T.rates.length - xq, ⟨0, ?_, [], ⟨⟨rfl, rfl⟩, ⟨⟨rfl, rfl⟩, ⟨⟨rfl, rfl⟩, trivial⟩⟩⟩, ⟨⟨rfl, rfl, rfl⟩, ⟨⟨rfl, rfl, rfl⟩, trivial⟩⟩, rfl, rfl, rfl⟩, ?_⟩
    · (try dsimp only); exact ⟨Nat.zero_le _, by simp⟩
    rintro k hk
    obtain ⟨hk, hn⟩ : k ≤ T.rates.length ∧ ∀ y ∈ T.rates.take k, decide (y.l = r.lift) = false := hk
    (try dsimp only)
    by_cases hkl : k < T.rates.length
    · obtain ⟨x, hx⟩ := getElem_some hkl
      obtain ⟨⟨p0, p1⟩, ⟨x0, x1⟩, hpk0⟩ := hrt x (List.mem_of_getElem? hx)
      have hpk : x.peak.length ≤ 9223372036854775807 := by omega
      have m0 : 0 ≤ x.p * x.x := Int.mul_nonneg p0 x0
      have m1 : x.p * x.x ≤ 10000 * x.x := Int.mul_le_mul_of_nonneg_right p1 x0
      have hdv : (x.p * x.x).tdiv 1000 = x.p * x.x / 1000 := Int.tdiv_eq_ediv_of_nonneg m0
      by_cases hxl : x.l = r.lift
      · have hP := hpt.trans (pts_some (t := r.time) hx hn hxl)
        cases hd : decide (inP x.peak r.time) with
        | true =>
          rw [if_pos (of_decide_eq_true hd)] at hP
          repeat' ((conv => whnf); first | (refine ⟨fun h => ?_, fun h => ?_⟩ <;> try (exfalso; first | omega | exact absurd h (by decide) | exact h rfl)) | (refine ⟨by omega, fun r hrr => ?_⟩; first | ((have hre : r = encR x := by (first | exact get_row hrr hx | fail)); subst hre)) | (refine ⟨_, rcin_h, (x.peak, r.time), hpk, leVs_of_eq rfl, .inl rfl, rfl, ?_⟩; show norm (B (decide (inP x.peak r.time))) _; rw [hd]) | (refine ⟨⟨by decide, by rw [hdv]; constructor <;> omega⟩, ?_⟩; rw [hdv]) | refine ⟨⟨by omega, by omega⟩, ?_⟩ | fail | fail)
          all_goals (refine ⟨[], rfl, trivial, congrArg (CV.int .i64) ?_⟩; exact (hP).symm)
        | false =>
          rw [if_neg (of_decide_eq_false hd)] at hP
          repeat' ((conv => whnf); first | (refine ⟨fun h => ?_, fun h => ?_⟩ <;> try (exfalso; first | omega | exact absurd h (by decide) | exact h rfl)) | (refine ⟨by omega, fun r hrr => ?_⟩; first | ((have hre : r = encR x := by (first | exact get_row hrr hx | fail)); subst hre)) | (refine ⟨_, rcin_h, (x.peak, r.time), hpk, leVs_of_eq rfl, .inl rfl, rfl, ?_⟩; show norm (B (decide (inP x.peak r.time))) _; rw [hd]) | (refine ⟨⟨by decide, by rw [hdv]; constructor <;> omega⟩, ?_⟩; rw [hdv]) | refine ⟨⟨by omega, by omega⟩, ?_⟩ | fail | fail)
          all_goals (refine ⟨[], rfl, trivial, congrArg (CV.int .i64) ?_⟩; exact (hP).symm)
      · repeat' ((conv => whnf); first | (refine ⟨fun h => ?_, fun h => ?_⟩ <;> try (exfalso; first | omega | exact absurd h (by decide) | exact h rfl)) | (refine ⟨by omega, fun r hrr => ?_⟩; first | ((have hre : r = encR x := by (first | exact get_row hrr hx | fail)); subst hre)) | (refine ⟨k + 1, ⟨?_, by (try dsimp only); omega⟩, [], ⟨⟨rfl, rfl⟩, ⟨⟨rfl, rfl⟩, ⟨⟨rfl, rfl⟩, trivial⟩⟩⟩, ⟨⟨rfl, rfl, rfl⟩, ⟨⟨rfl, rfl, rfl⟩, trivial⟩⟩, rfl, rfl, rfl⟩; (try dsimp only); exact ⟨by omega, first_step hx hn (decide_eq_false hxl)⟩) | refine ⟨⟨by omega, by omega⟩, ?_⟩ | fail)
    · rw [take_end hkl] at hn
      repeat' ((conv => whnf); first | (refine ⟨fun h => ?_, fun h => ?_⟩ <;> try (exfalso; first | omega | exact absurd h (by decide) | exact h rfl)) | fail | fail)
      all_goals (refine ⟨[], rfl, trivial, congrArg (CV.int .i64) ?_⟩; exact (hpt.trans (pts_none hn)).symm)
theorem rpts_h : Holds Try.prog 32 rptsS := holds_of mix Try.func32 rptsLow (fun _ => rfl) rptsV

/-! skiarea/tariff.Points -/
def ptsIr : IFn := ⟨46, [.tmp 4],
  (.seq (.ops [
    ⟨(some 3), .box, [.tmp 1], none⟩,
    ⟨(some 4), .mov, [.const (.int .i64 0)], none⟩] false)
  (.seq (.ops [
    ⟨(some 8), .mov, [.tmp 0], none⟩,
    ⟨(some 9), .faddr 6, [.tmp 3], none⟩,
    ⟨(some 10), .load 1 false, [.tmp 9], none⟩,
    ⟨(some 11), .call 47, [.tmp 8, .tmp 10], none⟩,
    ⟨(some 5), .mov, [.tmp 11], none⟩] false)
  (.seq (.seq (.ops [
    ⟨(some 12), .mov, [.tmp 5], none⟩,
    ⟨(some 13), .cmp .lss, [.tmp 12, .const (.int .i64 0)], none⟩] false)
  (.cond (.tmp 13)
    (.seq (.ops [
      ⟨(some 4), .mov, [.const (.int .i64 0)], none⟩] false)
    .ret)
    .skip))
  (.seq (.seq (.ops [
    ⟨(some 14), .mov, [.tmp 0], none⟩,
    ⟨(some 15), .mov, [.tmp 5], none⟩,
    ⟨(some 16), .idx 2, [.tmp 14, .tmp 15], none⟩,
    ⟨(some 17), .faddr 1, [.tmp 16], none⟩,
    ⟨(some 18), .load 1 false, [.tmp 17], none⟩,
    ⟨(some 19), .len, [.tmp 18], none⟩,
    ⟨(some 20), .mov, [.const (.int .i64 0)], none⟩] false)
  (.block 0
    (.loop
      (.seq (.ops [
        ⟨(some 21), .cmp .lss, [.tmp 20, .tmp 19], none⟩] false)
      (.seq (.cond (.tmp 21)
        .skip
        (.exit 0))
      (.seq (.block 1
        (.seq (.ops [
          ⟨(some 22), .idx 4, [.tmp 18, .tmp 20], none⟩,
          ⟨(some 23), .load 4 true, [.tmp 22], none⟩,
          ⟨(some 7), .alloc [.int .i64 0, .int .i64 0, .int .i64 0, .nil], [], none⟩,
          ⟨none, .store 4, [.tmp 7, .tmp 23], none⟩] false)
        (.seq (.seq (.ops [
          ⟨(some 24), .faddr 0, [.tmp 7], none⟩,
          ⟨(some 25), .load 1 false, [.tmp 24], none⟩,
          ⟨(some 26), .faddr 5, [.tmp 3], none⟩,
          ⟨(some 27), .load 1 false, [.tmp 26], none⟩,
          ⟨(some 28), .cmp .neq, [.tmp 25, .tmp 27], none⟩] false)
        (.cond (.tmp 28)
          (.exit 1)
          .skip))
        (.seq (.seq (.ops [
          ⟨(some 29), .faddr 3, [.tmp 7], none⟩,
          ⟨(some 30), .load 1 false, [.tmp 29], none⟩,
          ⟨(some 31), .faddr 6, [.tmp 3], none⟩,
          ⟨(some 32), .load 1 false, [.tmp 31], none⟩,
          ⟨(some 33), .call 48, [.tmp 30, .tmp 32], none⟩] false)
        (.cond (.tmp 33)
          (.seq (.ops [
            ⟨(some 34), .faddr 1, [.tmp 7], none⟩,
            ⟨(some 35), .load 1 false, [.tmp 34], none⟩,
            ⟨(some 36), .faddr 1, [.tmp 7], none⟩,
            ⟨(some 37), .load 1 false, [.tmp 36], none⟩,
            ⟨(some 38), .faddr 2, [.tmp 7], none⟩,
            ⟨(some 39), .load 1 false, [.tmp 38], none⟩,
            ⟨(some 40), .bin .mul .i64 false, [.tmp 37, .tmp 39], none⟩,
            ⟨(some 41), .bin .quo .i64 false, [.tmp 40, .const (.int .i64 1000)], none⟩,
            ⟨(some 42), .bin .add .i64 false, [.tmp 35, .tmp 41], none⟩,
            ⟨(some 4), .mov, [.tmp 42], none⟩] false)
          .ret)
          .skip))
        (.seq (.ops [
          ⟨(some 43), .faddr 1, [.tmp 7], none⟩,
          ⟨(some 44), .load 1 false, [.tmp 43], none⟩,
          ⟨(some 4), .mov, [.tmp 44], none⟩] false)
        .ret)))))
      (.ops [
        ⟨(some 45), .bin .add .i64 false, [.tmp 20, .const (.int .i64 1)], none⟩,
        ⟨(some 20), .mov, [.tmp 45], none⟩] false)))))))
  (.seq (.ops [
    ⟨(some 4), .mov, [.const (.int .i64 0)], none⟩] false)
  .ret)))))⟩
theorem ptsLow : lowF Try.prog {} Try.f30 = some ptsIr := by kernel_rfl
def ptsS : Spec := spec (List Tariff × Ride) (fun p => [L 2 (p.1.map encT), aD p.2]) (fun p => p.1.length ≤ 1000000 ∧ Rates p.1) (fun p => I (ptsF p.1 p.2))
theorem ptsV : fnV Try.prog ptsIr ptsS := by
  intro ⟨(l : List Tariff), (r : Ride)⟩ hx
  obtain ⟨hll, hR⟩ : l.length ≤ 1000000 ∧ Rates l := hx
  have hl : (l.map encT).length = l.length := List.length_map ..
  show vc _ _ _ _ ⟨argEnv 0 [L 2 (l.map encT), aD r], [], 0⟩
  rcases last_at l r.time l.length with ⟨hi, h⟩ | ⟨i, ⟨hil, hi⟩, h⟩
  · have hP : ptsF l r = 0 := by unfold ptsF; rw [h]
    repeat' ((conv => whnf); first | (refine ⟨fun h => ?_, fun h => ?_⟩ <;> try (exfalso; first | omega | exact absurd h (by decide) | exact h rfl)) | (refine ⟨_, tidx_h, (l, r.time), hll, leVs_of_eq rfl, .inl rfl, rfl, ?_⟩; show norm (I (lastB (inForce l r.time) l.length)) _; rw [hi]) | fail | fail)
    all_goals (refine ⟨[], rfl, trivial, congrArg (CV.int .i64) ?_⟩; exact (hP).symm)
  · obtain ⟨T, hT⟩ := getElem_some hil
    obtain ⟨hrl, hrt⟩ := hR T (List.mem_of_getElem? hT)
    have hpt : ptsF l r = ptsR T.rates r.lift r.time := by unfold ptsF; rw [h, at_of hT]
    have hlr : (T.rates.map encR).length = T.rates.length := List.length_map ..
    repeat' ((conv => whnf); first | (refine ⟨fun h => ?_, fun h => ?_⟩ <;> try (exfalso; first | omega | exact absurd h (by decide) | exact h rfl)) | (refine ⟨_, tidx_h, (l, r.time), hll, leVs_of_eq rfl, .inl rfl, rfl, ?_⟩; show norm (I (lastB (inForce l r.time) l.length)) _; rw [hi]) | (refine ⟨by omega, fun q hrr => ?_⟩; ((have hre : q = encT T := by (first | exact get_row hrr hT | fail)); subst hre)) | fail | fail)
    refine ⟨Nat, fun xq => ⟨[(3, .bp 0 0), (18, L 4 (T.rates.map encR)), (19, I (T.rates.map encR).length), (20, I xq)], [(0, .box ((encD r).map .c))], 1⟩, fun xq => xq ≤ T.rates.length ∧ ∀ y ∈ T.rates.take xq, decide (y.l = r.lift) = false, fun xq => T.rates.length - xq, ⟨0, ?_, [], ⟨⟨rfl, rfl⟩, ⟨⟨rfl, rfl⟩, ⟨⟨rfl, rfl⟩, ⟨⟨rfl, rfl⟩, trivial⟩⟩⟩⟩, ⟨⟨rfl, rfl, rfl⟩, trivial⟩, rfl, rfl, rfl⟩, ?_⟩
    · (try dsimp only); exact ⟨Nat.zero_le _, by simp⟩
    rintro k hk
    obtain ⟨hk, hn⟩ : k ≤ T.rates.length ∧ ∀ y ∈ T.rates.take k, decide (y.l = r.lift) = false := hk
    (try dsimp only)
    by_cases hkl : k < T.rates.length
    · obtain ⟨x, hx⟩ := getElem_some hkl
      obtain ⟨⟨p0, p1⟩, ⟨x0, x1⟩, hpk0⟩ := hrt x (List.mem_of_getElem? hx)
      have hpk : x.peak.length ≤ 9223372036854775807 := by omega
      have m0 : 0 ≤ x.p * x.x := Int.mul_nonneg p0 x0
      have m1 : x.p * x.x ≤ 10000 * x.x := Int.mul_le_mul_of_nonneg_right p1 x0
      have hdv : (x.p * x.x).tdiv 1000 = x.p * x.x / 1000 := Int.tdiv_eq_ediv_of_nonneg m0
      by_cases hxl : x.l = r.lift
      · have hP := hpt.trans (pts_some (t := r.time) hx hn hxl)
        cases hd : decide (inP x.peak r.time) with
        | true =>
          rw [if_pos (of_decide_eq_true hd)] at hP
          repeat' ((conv => whnf); first | (refine ⟨fun h => ?_, fun h => ?_⟩ <;> try (exfalso; first | omega | exact absurd h (by decide) | exact h rfl)) | (refine ⟨by omega, fun r hrr => ?_⟩; first | ((have hre : r = encR x := by (first | exact get_row hrr hx | fail)); subst hre)) | (refine ⟨_, inn_h, (x.peak, r.time), hpk, leVs_of_eq rfl, .inl rfl, rfl, ?_⟩; show norm (B (decide (inP x.peak r.time))) _; rw [hd]) | (refine ⟨⟨by decide, by rw [hdv]; constructor <;> omega⟩, ?_⟩; rw [hdv]) | refine ⟨⟨by omega, by omega⟩, ?_⟩ | fail | fail)
          all_goals (refine ⟨[], rfl, trivial, congrArg (CV.int .i64) ?_⟩; exact (hP).symm)
        | false =>
          rw [if_neg (of_decide_eq_false hd)] at hP
          repeat' ((conv => whnf); first | (refine ⟨fun h => ?_, fun h => ?_⟩ <;> try (exfalso; first | omega | exact absurd h (by decide) | exact h rfl)) | (refine ⟨by omega, fun r hrr => ?_⟩; first | ((have hre : r = encR x := by (first | exact get_row hrr hx | fail)); subst hre)) | (refine ⟨_, inn_h, (x.peak, r.time), hpk, leVs_of_eq rfl, .inl rfl, rfl, ?_⟩; show norm (B (decide (inP x.peak r.time))) _; rw [hd]) | (refine ⟨⟨by decide, by rw [hdv]; constructor <;> omega⟩, ?_⟩; rw [hdv]) | refine ⟨⟨by omega, by omega⟩, ?_⟩ | fail | fail)
          all_goals (refine ⟨[], rfl, trivial, congrArg (CV.int .i64) ?_⟩; exact (hP).symm)
      · repeat' ((conv => whnf); first | (refine ⟨fun h => ?_, fun h => ?_⟩ <;> try (exfalso; first | omega | exact absurd h (by decide) | exact h rfl)) | (refine ⟨by omega, fun r hrr => ?_⟩; first | ((have hre : r = encR x := by (first | exact get_row hrr hx | fail)); subst hre)) | (refine ⟨k + 1, ⟨?_, by (try dsimp only); omega⟩, [], ⟨⟨rfl, rfl⟩, ⟨⟨rfl, rfl⟩, ⟨⟨rfl, rfl⟩, ⟨⟨rfl, rfl⟩, trivial⟩⟩⟩⟩, ⟨⟨rfl, rfl, rfl⟩, trivial⟩, rfl, rfl, rfl⟩; (try dsimp only); exact ⟨by omega, first_step hx hn (decide_eq_false hxl)⟩) | refine ⟨⟨by omega, by omega⟩, ?_⟩ | fail)
    · rw [take_end hkl] at hn
      repeat' ((conv => whnf); first | (refine ⟨fun h => ?_, fun h => ?_⟩ <;> try (exfalso; first | omega | exact absurd h (by decide) | exact h rfl)) | fail | fail)
      all_goals (refine ⟨[], rfl, trivial, congrArg (CV.int .i64) ?_⟩; exact (hpt.trans (pts_none hn)).symm)
theorem pts_h : Holds Try.prog 30 ptsS := holds_of mix Try.func30 ptsLow (fun _ => rfl) ptsV

end Go.Proofs.Ytbglmocgijlomaa
