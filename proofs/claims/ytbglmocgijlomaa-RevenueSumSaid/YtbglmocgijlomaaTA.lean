/- Tariffs: the reference's Right, and the points of a ride. -/
import Derived.Test.YtbglmocgijlomaaT9
namespace Go.Proofs.Ytbglmocgijlomaa
open Go.RowKit

/-! skiarea/skiarearef33.Right -/
def rtarsIr : IFn := ⟨87, [.tmp 2],
  (.seq (.ops [
    ⟨(some 2), .mov, [.const (.int .i64 0)], none⟩] false)
  (.seq (.seq (.ops [
    ⟨(some 6), .mov, [.tmp 0], none⟩,
    ⟨(some 7), .len, [.tmp 6], none⟩,
    ⟨(some 8), .cmp .eql, [.tmp 7, .const (.int .i64 0)], none⟩] false)
  (.cond (.tmp 8)
    (.seq (.ops [
      ⟨(some 2), .mov, [.const (.int .i64 8)], none⟩] false)
    .ret)
    .skip))
  (.seq (.seq (.ops [
    ⟨(some 9), .mov, [.tmp 0], none⟩,
    ⟨(some 10), .len, [.tmp 9], none⟩,
    ⟨(some 11), .cmp .gtr, [.tmp 10, .const (.int .i64 16)], none⟩] false)
  (.cond (.tmp 11)
    (.seq (.ops [
      ⟨(some 2), .mov, [.const (.int .i64 4)], none⟩] false)
    .ret)
    .skip))
  (.seq (.seq (.ops [
    ⟨(some 3), .mov, [.const (.int .i64 0)], none⟩] false)
  (.block 0
    (.loop
      (.seq (.seq (.ops [
        ⟨(some 12), .mov, [.tmp 3], none⟩,
        ⟨(some 13), .mov, [.tmp 0], none⟩,
        ⟨(some 14), .len, [.tmp 13], none⟩,
        ⟨(some 15), .cmp .lss, [.tmp 12, .tmp 14], none⟩] false)
      (.cond (.tmp 15)
        .skip
        (.exit 0)))
      (.seq (.block 1
        (.seq (.seq (.ops [
          ⟨(some 18), .mov, [.tmp 0], none⟩,
          ⟨(some 19), .mov, [.tmp 3], none⟩,
          ⟨(some 20), .idx 2, [.tmp 18, .tmp 19], none⟩,
          ⟨(some 21), .faddr 0, [.tmp 20], none⟩,
          ⟨(some 22), .load 1 false, [.tmp 21], none⟩,
          ⟨(some 23), .cmp .lss, [.tmp 22, .const (.int .i64 0)], none⟩,
          ⟨(some 24), .mov, [.tmp 23], none⟩,
          ⟨(some 25), .mov, [.tmp 0], (some (24, false))⟩,
          ⟨(some 26), .mov, [.tmp 3], (some (24, false))⟩,
          ⟨(some 27), .idx 2, [.tmp 25, .tmp 26], (some (24, false))⟩,
          ⟨(some 28), .faddr 0, [.tmp 27], (some (24, false))⟩,
          ⟨(some 29), .load 1 false, [.tmp 28], (some (24, false))⟩,
          ⟨(some 30), .cmp .gtr, [.tmp 29, .const (.int .i64 20000000)], (some (24, false))⟩,
          ⟨(some 31), .pick, [.tmp 24, .const (.bool true), .tmp 30], none⟩,
          ⟨(some 32), .mov, [.tmp 31], none⟩,
          ⟨(some 33), .mov, [.tmp 3], (some (32, false))⟩,
          ⟨(some 34), .cmp .eql, [.tmp 33, .const (.int .i64 0)], (some (32, false))⟩,
          ⟨(some 35), .mov, [.tmp 34], (some (32, false))⟩,
          ⟨(some 36), .mov, [.tmp 0], (some (35, true))⟩,
          ⟨(some 37), .mov, [.tmp 3], (some (35, true))⟩,
          ⟨(some 38), .idx 2, [.tmp 36, .tmp 37], (some (35, true))⟩,
          ⟨(some 39), .faddr 0, [.tmp 38], (some (35, true))⟩,
          ⟨(some 40), .load 1 false, [.tmp 39], (some (35, true))⟩,
          ⟨(some 41), .cmp .neq, [.tmp 40, .const (.int .i64 0)], (some (35, true))⟩,
          ⟨(some 42), .pick, [.tmp 35, .tmp 41, .const (.bool false)], (some (32, false))⟩,
          ⟨(some 43), .pick, [.tmp 32, .const (.bool true), .tmp 42], none⟩] false)
        (.cond (.tmp 43)
          (.seq (.ops [
            ⟨(some 2), .mov, [.const (.int .i64 2)], none⟩] false)
          .ret)
          .skip))
        (.seq (.seq (.ops [
          ⟨(some 44), .mov, [.tmp 3], none⟩,
          ⟨(some 45), .cmp .gtr, [.tmp 44, .const (.int .i64 0)], none⟩,
          ⟨(some 46), .mov, [.tmp 45], none⟩,
          ⟨(some 47), .mov, [.tmp 0], (some (46, true))⟩,
          ⟨(some 48), .mov, [.tmp 3], (some (46, true))⟩,
          ⟨(some 49), .idx 2, [.tmp 47, .tmp 48], (some (46, true))⟩,
          ⟨(some 50), .faddr 0, [.tmp 49], (some (46, true))⟩,
          ⟨(some 51), .load 1 false, [.tmp 50], (some (46, true))⟩,
          ⟨(some 52), .mov, [.tmp 0], (some (46, true))⟩,
          ⟨(some 53), .mov, [.tmp 3], (some (46, true))⟩,
          ⟨(some 54), .bin .sub .i64 false, [.tmp 53, .const (.int .i64 1)], (some (46, true))⟩,
          ⟨(some 55), .idx 2, [.tmp 52, .tmp 54], (some (46, true))⟩,
          ⟨(some 56), .faddr 0, [.tmp 55], (some (46, true))⟩,
          ⟨(some 57), .load 1 false, [.tmp 56], (some (46, true))⟩,
          ⟨(some 58), .cmp .leq, [.tmp 51, .tmp 57], (some (46, true))⟩,
          ⟨(some 59), .pick, [.tmp 46, .tmp 58, .const (.bool false)], none⟩] true)
        (.cond (.tmp 59)
          (.seq (.ops [
            ⟨(some 2), .mov, [.const (.int .i64 11)], none⟩] false)
          .ret)
          .skip))
        (.seq (.seq (.ops [
          ⟨(some 60), .mov, [.tmp 0], none⟩,
          ⟨(some 61), .mov, [.tmp 3], none⟩,
          ⟨(some 62), .idx 2, [.tmp 60, .tmp 61], none⟩,
          ⟨(some 63), .faddr 1, [.tmp 62], none⟩,
          ⟨(some 64), .load 1 false, [.tmp 63], none⟩,
          ⟨(some 65), .len, [.tmp 64], none⟩,
          ⟨(some 66), .cmp .gtr, [.tmp 65, .const (.int .i64 32)], none⟩] false)
        (.cond (.tmp 66)
          (.seq (.ops [
            ⟨(some 2), .mov, [.const (.int .i64 4)], none⟩] false)
          .ret)
          .skip))
        (.seq (.ops [
          ⟨(some 4), .mov, [.const (.int .i64 0)], none⟩] false)
        (.block 2
          (.loop
            (.seq (.seq (.ops [
              ⟨(some 67), .mov, [.tmp 4], none⟩,
              ⟨(some 68), .mov, [.tmp 0], none⟩,
              ⟨(some 69), .mov, [.tmp 3], none⟩,
              ⟨(some 70), .idx 2, [.tmp 68, .tmp 69], none⟩,
              ⟨(some 71), .faddr 1, [.tmp 70], none⟩,
              ⟨(some 72), .load 1 false, [.tmp 71], none⟩,
              ⟨(some 73), .len, [.tmp 72], none⟩,
              ⟨(some 74), .cmp .lss, [.tmp 67, .tmp 73], none⟩] false)
            (.cond (.tmp 74)
              .skip
              (.exit 2)))
            (.seq (.block 3
              (.seq (.ops [
                ⟨(some 77), .mov, [.tmp 0], none⟩,
                ⟨(some 78), .mov, [.tmp 3], none⟩,
                ⟨(some 79), .idx 2, [.tmp 77, .tmp 78], none⟩,
                ⟨(some 80), .faddr 1, [.tmp 79], none⟩,
                ⟨(some 81), .load 1 false, [.tmp 80], none⟩,
                ⟨(some 82), .mov, [.tmp 4], none⟩,
                ⟨(some 83), .call 44, [.tmp 81, .tmp 82], none⟩,
                ⟨(some 5), .mov, [.tmp 83], none⟩] false)
              (.seq (.ops [
                ⟨(some 84), .mov, [.tmp 5], none⟩,
                ⟨(some 85), .cmp .neq, [.tmp 84, .const (.int .i64 0)], none⟩] false)
              (.cond (.tmp 85)
                (.seq (.ops [
                  ⟨(some 86), .mov, [.tmp 5], none⟩,
                  ⟨(some 2), .mov, [.tmp 86], none⟩] false)
                .ret)
                .skip))))
            (.ops [
              ⟨(some 75), .mov, [.tmp 4], none⟩,
              ⟨(some 76), .bin .add .i64 false, [.tmp 75, .const (.int .i64 1)], none⟩,
              ⟨(some 4), .mov, [.tmp 76], none⟩] false))))))))))
      (.ops [
        ⟨(some 16), .mov, [.tmp 3], none⟩,
        ⟨(some 17), .bin .add .i64 false, [.tmp 16, .const (.int .i64 1)], none⟩,
        ⟨(some 3), .mov, [.tmp 17], none⟩] false))))))
  (.seq (.ops [
    ⟨(some 2), .mov, [.const (.int .i64 0)], none⟩] false)
  .ret)))))⟩
theorem rtarsLow : lowF Try.prog {} Try.f27 = some rtarsIr := by kernel_rfl
def rtarsS : Spec := spec (List Tariff) (fun l => [L 2 (l.map encT)]) okT (fun l => I (tarsE l))
set_option maxHeartbeats 2000000 in
theorem rtarsV : fnV Try.prog rtarsIr rtarsS := by
  intro (l : List Tariff) (hok : okT l)
  have hll := hok.1
  have hl : (l.map encT).length = l.length := List.length_map ..
  show vc _ _ _ _ ⟨argEnv 0 [L 2 (l.map encT)], [], 0⟩
  by_cases hz : l.length = 0
  · repeat' ((conv => whnf); first | (refine ⟨fun h => ?_, fun h => ?_⟩ <;> try (exfalso; first | omega | exact absurd h (by decide) | exact h rfl)) | fail | fail)
    all_goals (refine ⟨[], rfl, trivial, congrArg (CV.int .i64) ?_⟩; exact ((show tarsE l = 8 from if_pos hz)).symm)
  by_cases h16 : 16 < l.length
  · repeat' ((conv => whnf); first | (refine ⟨fun h => ?_, fun h => ?_⟩ <;> try (exfalso; first | omega | exact absurd h (by decide) | exact h rfl)) | fail | fail)
    all_goals (refine ⟨[], rfl, trivial, congrArg (CV.int .i64) ?_⟩; exact ((show tarsE l = 4 by unfold tarsE; rw [if_neg hz, if_pos h16])).symm)
  have hT : tarsE l = fe (tarE l) l.length := by unfold tarsE; rw [if_neg hz, if_neg h16]
  repeat' ((conv => whnf); first | (refine ⟨fun h => ?_, fun h => ?_⟩ <;> try (exfalso; first | omega | exact absurd h (by decide) | exact h rfl)) | fail | fail)
  refine ⟨Nat, fun xq => ⟨[(0, L 2 (l.map encT)), (3, I xq)], [], 0⟩, fun xq => xq ≤ l.length ∧ fe (tarE l) xq = 0, fun xq => l.length - xq, ⟨0, ?_, [], ⟨⟨rfl, rfl⟩, ⟨⟨rfl, rfl⟩, trivial⟩⟩, trivial, rfl, rfl, rfl⟩, ?_⟩
  · (try dsimp only); exact ⟨Nat.zero_le _, rfl⟩
  rintro k hk
  obtain ⟨hk, h0⟩ : k ≤ l.length ∧ fe (tarE l) k = 0 := hk
  (try dsimp only)
  by_cases hkl : k < l.length
  · obtain ⟨x, hx⟩ := getElem_some hkl
    have hox := hok.2 x (List.mem_of_getElem? hx)
    have hlr : (x.rates.map encR).length = x.rates.length := List.length_map ..
    have hE : tarE l k = if x.frm < 0 ∨ 20000000 < x.frm ∨ (k = 0 ∧ x.frm ≠ 0) then 2 else if 0 < k ∧ x.frm ≤ (at_ l tar0 (k - 1)).frm then 11 else if 32 < x.rates.length then 4 else fe (rateE x.rates) x.rates.length := by unfold tarE; rw [at_of hx]
    by_cases c1 : x.frm < 0 ∨ 20000000 < x.frm ∨ (k = 0 ∧ x.frm ≠ 0)
    · repeat' ((conv => whnf); first | (refine ⟨fun h => ?_, fun h => ?_⟩ <;> try (exfalso; first | omega | exact absurd h (by decide) | exact h rfl)) | (refine ⟨by omega, fun r hrr => ?_⟩; first | ((have hre : r = encT x := by (first | exact get_row hrr hx | fail)); subst hre)) | refine ⟨⟨by omega, by omega⟩, ?_⟩ | fail | fail)
      all_goals (refine ⟨[], rfl, trivial, congrArg (CV.int .i64) ?_⟩; exact (hT.trans (fe_hit hkl h0 (hE.trans (if_pos c1)) (by decide))).symm)
    rw [if_neg c1] at hE
    by_cases hk0 : k = 0
    · subst hk0
      rw [if_neg (by omega)] at hE
      by_cases h32 : 32 < x.rates.length
      · repeat' ((conv => whnf); first | (refine ⟨fun h => ?_, fun h => ?_⟩ <;> try (exfalso; first | omega | exact absurd h (by decide) | exact h rfl)) | (refine ⟨by omega, fun r hrr => ?_⟩; first | ((have hre : r = encT x := by (first | exact get_row hrr hx | fail)); subst hre)) | refine ⟨⟨by omega, by omega⟩, ?_⟩ | fail | fail)
        all_goals (refine ⟨[], rfl, trivial, congrArg (CV.int .i64) ?_⟩; exact (hT.trans (fe_hit hkl h0 (hE.trans (if_pos h32)) (by decide))).symm)
      rw [if_neg h32] at hE
      repeat' ((conv => whnf); first | (refine ⟨fun h => ?_, fun h => ?_⟩ <;> try (exfalso; first | omega | exact absurd h (by decide) | exact h rfl)) | (refine ⟨by omega, fun r hrr => ?_⟩; first | ((have hre : r = encT x := by (first | exact get_row hrr hx | fail)); subst hre)) | refine ⟨⟨by omega, by omega⟩, ?_⟩ | fail | fail)
      refine ⟨Nat, fun xq => ⟨[(0, L 2 (l.map encT)), (3, I ((0 : Nat) : Int)), (4, I xq)], [], 0⟩, fun xq => xq ≤ x.rates.length ∧ fe (rateE x.rates) xq = 0, fun xq => x.rates.length - xq, ⟨0, ?_, [], ⟨⟨rfl, rfl⟩, ⟨⟨rfl, rfl⟩, ⟨⟨rfl, rfl⟩, trivial⟩⟩⟩, trivial, rfl, rfl, rfl⟩, ?_⟩
      · (try dsimp only); exact ⟨Nat.zero_le _, rfl⟩
      rintro i hk
      obtain ⟨hi, g0⟩ : i ≤ x.rates.length ∧ fe (rateE x.rates) i = 0 := hk
      (try dsimp only)
      by_cases hil : i < x.rates.length
      · by_cases he : rateE x.rates i = 0
        · repeat' ((conv => whnf); first | (refine ⟨fun h => ?_, fun h => ?_⟩ <;> try (exfalso; first | omega | exact absurd h (by decide) | exact h rfl)) | (refine ⟨by omega, fun r hrr => ?_⟩; first | ((have hre : r = encT x := by (first | exact get_row hrr hx | fail)); subst hre)) | (refine ⟨_, rrate_h, (x.rates, i), ⟨⟨hil, hox.1⟩, hox.2⟩, leVs_of_eq rfl, .inl rfl, rfl, ?_⟩; show norm (I (rateE x.rates i)) _; rw [he]) | (refine ⟨i + 1, ⟨?_, by (try dsimp only); omega⟩, [], ⟨⟨rfl, rfl⟩, ⟨⟨rfl, rfl⟩, ⟨⟨rfl, rfl⟩, trivial⟩⟩⟩, trivial, rfl, rfl, rfl⟩; (try dsimp only); exact ⟨by omega, fe_go g0 he⟩) | refine ⟨⟨by omega, by omega⟩, ?_⟩ | fail)
        · repeat' ((conv => whnf); first | (refine ⟨fun h => ?_, fun h => ?_⟩ <;> try (exfalso; first | omega | exact absurd h (by decide) | exact h rfl)) | (refine ⟨by omega, fun r hrr => ?_⟩; first | ((have hre : r = encT x := by (first | exact get_row hrr hx | fail)); subst hre)) | (refine ⟨_, rrate_h, (x.rates, i), ⟨⟨hil, hox.1⟩, hox.2⟩, leVs_of_eq rfl, .inl rfl, rfl, ?_⟩; show norm (I (rateE x.rates i)) _) | refine ⟨⟨by omega, by omega⟩, ?_⟩ | fail | fail)
          all_goals (refine ⟨[], rfl, trivial, congrArg (CV.int .i64) ?_⟩; exact (hT.trans (fe_hit hkl h0 (hE.trans (fe_hit hil g0 rfl he)) he)).symm)
      · have hin : i = x.rates.length := by omega
        subst hin
        repeat' ((conv => whnf); first | (refine ⟨fun h => ?_, fun h => ?_⟩ <;> try (exfalso; first | omega | exact absurd h (by decide) | exact h rfl)) | (refine ⟨by omega, fun r hrr => ?_⟩; first | ((have hre : r = encT x := by (first | exact get_row hrr hx | fail)); subst hre)) | (refine ⟨_ + 1, ⟨?_, by (try dsimp only); omega⟩, [], ⟨⟨rfl, rfl⟩, ⟨⟨rfl, rfl⟩, trivial⟩⟩, trivial, rfl, rfl, rfl⟩; (try dsimp only); exact ⟨by omega, fe_go h0 (hE.trans g0)⟩) | refine ⟨⟨by omega, by omega⟩, ?_⟩ | fail)
    · obtain ⟨y, hy⟩ := getElem_some (show k - 1 < l.length by omega)
      rw [at_of hy] at hE
      by_cases hle : x.frm ≤ y.frm
      · repeat' ((conv => whnf); first | (refine ⟨fun h => ?_, fun h => ?_⟩ <;> try (exfalso; first | omega | exact absurd h (by decide) | exact h rfl)) | (refine ⟨by omega, fun r hrr => ?_⟩; first | ((have hre : r = encT x := by (first | exact get_row hrr hx | fail)); subst hre) | ((have hre : r = encT y := by (first | exact get_rowi (j := k - 1) hrr (by omega) hy | fail)); subst hre)) | refine ⟨⟨by omega, by omega⟩, ?_⟩ | fail | fail)
        all_goals (refine ⟨[], rfl, trivial, congrArg (CV.int .i64) ?_⟩; exact (hT.trans (fe_hit hkl h0 (hE.trans (if_pos ⟨by omega, hle⟩)) (by decide))).symm)
      · rw [if_neg (by omega)] at hE
        by_cases h32 : 32 < x.rates.length
        · repeat' ((conv => whnf); first | (refine ⟨fun h => ?_, fun h => ?_⟩ <;> try (exfalso; first | omega | exact absurd h (by decide) | exact h rfl)) | (refine ⟨by omega, fun r hrr => ?_⟩; first | ((have hre : r = encT x := by (first | exact get_row hrr hx | fail)); subst hre) | ((have hre : r = encT y := by (first | exact get_rowi (j := k - 1) hrr (by omega) hy | fail)); subst hre)) | refine ⟨⟨by omega, by omega⟩, ?_⟩ | fail | fail)
          all_goals (refine ⟨[], rfl, trivial, congrArg (CV.int .i64) ?_⟩; exact (hT.trans (fe_hit hkl h0 (hE.trans (if_pos h32)) (by decide))).symm)
        rw [if_neg h32] at hE
        repeat' ((conv => whnf); first | (refine ⟨fun h => ?_, fun h => ?_⟩ <;> try (exfalso; first | omega | exact absurd h (by decide) | exact h rfl)) | (refine ⟨by omega, fun r hrr => ?_⟩; first | ((have hre : r = encT x := by (first | exact get_row hrr hx | fail)); subst hre) | ((have hre : r = encT y := by (first | exact get_rowi (j := k - 1) hrr (by omega) hy | fail)); subst hre)) | refine ⟨⟨by omega, by omega⟩, ?_⟩ | fail | fail)
        refine ⟨Nat, fun xq => ⟨[(0, L 2 (l.map encT)), (3, I k), (4, I xq)], [], 0⟩, fun xq => xq ≤ x.rates.length ∧ fe (rateE x.rates) xq = 0, fun xq => x.rates.length - xq, ⟨0, ?_, [], ⟨⟨rfl, rfl⟩, ⟨⟨rfl, rfl⟩, ⟨⟨rfl, rfl⟩, trivial⟩⟩⟩, trivial, rfl, rfl, rfl⟩, ?_⟩
        · (try dsimp only); exact ⟨Nat.zero_le _, rfl⟩
        rintro i hk
        obtain ⟨hi, g0⟩ : i ≤ x.rates.length ∧ fe (rateE x.rates) i = 0 := hk
        (try dsimp only)
        by_cases hil : i < x.rates.length
        · by_cases he : rateE x.rates i = 0
          · repeat' ((conv => whnf); first | (refine ⟨fun h => ?_, fun h => ?_⟩ <;> try (exfalso; first | omega | exact absurd h (by decide) | exact h rfl)) | (refine ⟨by omega, fun r hrr => ?_⟩; first | ((have hre : r = encT x := by (first | exact get_row hrr hx | fail)); subst hre)) | (refine ⟨_, rrate_h, (x.rates, i), ⟨⟨hil, hox.1⟩, hox.2⟩, leVs_of_eq rfl, .inl rfl, rfl, ?_⟩; show norm (I (rateE x.rates i)) _; rw [he]) | (refine ⟨i + 1, ⟨?_, by (try dsimp only); omega⟩, [], ⟨⟨rfl, rfl⟩, ⟨⟨rfl, rfl⟩, ⟨⟨rfl, rfl⟩, trivial⟩⟩⟩, trivial, rfl, rfl, rfl⟩; (try dsimp only); exact ⟨by omega, fe_go g0 he⟩) | refine ⟨⟨by omega, by omega⟩, ?_⟩ | fail)
          · repeat' ((conv => whnf); first | (refine ⟨fun h => ?_, fun h => ?_⟩ <;> try (exfalso; first | omega | exact absurd h (by decide) | exact h rfl)) | (refine ⟨by omega, fun r hrr => ?_⟩; first | ((have hre : r = encT x := by (first | exact get_row hrr hx | fail)); subst hre)) | (refine ⟨_, rrate_h, (x.rates, i), ⟨⟨hil, hox.1⟩, hox.2⟩, leVs_of_eq rfl, .inl rfl, rfl, ?_⟩; show norm (I (rateE x.rates i)) _) | refine ⟨⟨by omega, by omega⟩, ?_⟩ | fail | fail)
            all_goals (refine ⟨[], rfl, trivial, congrArg (CV.int .i64) ?_⟩; exact (hT.trans (fe_hit hkl h0 (hE.trans (fe_hit hil g0 rfl he)) he)).symm)
        · have hin : i = x.rates.length := by omega
          subst hin
          repeat' ((conv => whnf); first | (refine ⟨fun h => ?_, fun h => ?_⟩ <;> try (exfalso; first | omega | exact absurd h (by decide) | exact h rfl)) | (refine ⟨by omega, fun r hrr => ?_⟩; first | ((have hre : r = encT x := by (first | exact get_row hrr hx | fail)); subst hre)) | (refine ⟨k + 1, ⟨?_, by (try dsimp only); omega⟩, [], ⟨⟨rfl, rfl⟩, ⟨⟨rfl, rfl⟩, trivial⟩⟩, trivial, rfl, rfl, rfl⟩; (try dsimp only); exact ⟨by omega, fe_go h0 (hE.trans g0)⟩) | refine ⟨⟨by omega, by omega⟩, ?_⟩ | fail)
  · have hkn : k = l.length := by omega
    subst hkn
    repeat' ((conv => whnf); first | (refine ⟨fun h => ?_, fun h => ?_⟩ <;> try (exfalso; first | omega | exact absurd h (by decide) | exact h rfl)) | fail | fail)
    all_goals (refine ⟨[], rfl, trivial, congrArg (CV.int .i64) ?_⟩; exact (hT.trans h0).symm)
theorem rtars_h : Holds Try.prog 27 rtarsS := holds_of mix Try.func27 rtarsLow (fun _ => rfl) rtarsV

end Go.Proofs.Ytbglmocgijlomaa
