/- Revenue: checks of sales. -/
import Derived.Test.YtbglmocgijlomaaTF
namespace Go.Proofs.Ytbglmocgijlomaa
open Go.RowKit

/-! skiarea/revenue.Right -/
def srightIr : IFn := ⟨80, [.tmp 2],
  (.seq (.ops [
    ⟨(some 2), .mov, [.const (.int .i64 0)], none⟩] false)
  (.seq (.seq (.ops [
    ⟨(some 6), .mov, [.tmp 0], none⟩,
    ⟨(some 7), .len, [.tmp 6], none⟩,
    ⟨(some 8), .cmp .gtr, [.tmp 7, .const (.int .i64 2000)], none⟩] false)
  (.cond (.tmp 8)
    (.seq (.ops [
      ⟨(some 2), .mov, [.const (.int .i64 4)], none⟩] false)
    .ret)
    .skip))
  (.seq (.ops [
    ⟨(some 9), .mkmap 0 false, [], none⟩,
    ⟨(some 3), .mov, [.tmp 9], none⟩] false)
  (.seq (.seq (.ops [
    ⟨(some 10), .mov, [.tmp 0], none⟩,
    ⟨(some 11), .len, [.tmp 10], none⟩,
    ⟨(some 12), .mov, [.const (.int .i64 0)], none⟩] false)
  (.block 0
    (.loop
      (.seq (.ops [
        ⟨(some 13), .cmp .lss, [.tmp 12, .tmp 11], none⟩] false)
      (.seq (.cond (.tmp 13)
        .skip
        (.exit 0))
      (.seq (.block 1
        (.seq (.ops [
          ⟨(some 14), .idx 6, [.tmp 10, .tmp 12], none⟩,
          ⟨(some 15), .load 6 true, [.tmp 14], none⟩,
          ⟨(some 5), .alloc [.int .i64 0, .int .i64 0, .int .i64 0, .int .i64 0, .int .i64 0, .int .i64 0], [], none⟩,
          ⟨none, .store 6, [.tmp 5, .tmp 15], none⟩] false)
        (.seq (.seq (.ops [
          ⟨(some 16), .faddr 0, [.tmp 5], none⟩,
          ⟨(some 17), .load 1 false, [.tmp 16], none⟩,
          ⟨(some 18), .cmp .lss, [.tmp 17, .const (.int .i64 1)], none⟩,
          ⟨(some 19), .mov, [.tmp 18], none⟩,
          ⟨(some 20), .faddr 0, [.tmp 5], (some (19, false))⟩,
          ⟨(some 21), .load 1 false, [.tmp 20], (some (19, false))⟩,
          ⟨(some 22), .cmp .gtr, [.tmp 21, .const (.int .i64 9999)], (some (19, false))⟩,
          ⟨(some 23), .pick, [.tmp 19, .const (.bool true), .tmp 22], none⟩,
          ⟨(some 24), .mov, [.tmp 23], none⟩,
          ⟨(some 25), .faddr 1, [.tmp 5], (some (24, false))⟩,
          ⟨(some 26), .load 1 false, [.tmp 25], (some (24, false))⟩,
          ⟨(some 27), .cmp .lss, [.tmp 26, .const (.int .i64 1)], (some (24, false))⟩,
          ⟨(some 28), .pick, [.tmp 24, .const (.bool true), .tmp 27], none⟩,
          ⟨(some 29), .mov, [.tmp 28], none⟩,
          ⟨(some 30), .faddr 1, [.tmp 5], (some (29, false))⟩,
          ⟨(some 31), .load 1 false, [.tmp 30], (some (29, false))⟩,
          ⟨(some 32), .cmp .gtr, [.tmp 31, .const (.int .i64 9999)], (some (29, false))⟩,
          ⟨(some 33), .pick, [.tmp 29, .const (.bool true), .tmp 32], none⟩] false)
        (.cond (.tmp 33)
          (.seq (.ops [
            ⟨(some 2), .mov, [.const (.int .i64 2)], none⟩] false)
          .ret)
          .skip))
        (.seq (.seq (.ops [
          ⟨(some 34), .faddr 2, [.tmp 5], none⟩,
          ⟨(some 35), .load 1 false, [.tmp 34], none⟩,
          ⟨(some 36), .cmp .lss, [.tmp 35, .const (.int .i64 1)], none⟩,
          ⟨(some 37), .mov, [.tmp 36], none⟩,
          ⟨(some 38), .faddr 2, [.tmp 5], (some (37, false))⟩,
          ⟨(some 39), .load 1 false, [.tmp 38], (some (37, false))⟩,
          ⟨(some 40), .cmp .gtr, [.tmp 39, .const (.int .i64 8)], (some (37, false))⟩,
          ⟨(some 41), .pick, [.tmp 37, .const (.bool true), .tmp 40], none⟩,
          ⟨(some 42), .mov, [.tmp 41], none⟩,
          ⟨(some 43), .faddr 3, [.tmp 5], (some (42, false))⟩,
          ⟨(some 44), .load 1 false, [.tmp 43], (some (42, false))⟩,
          ⟨(some 45), .cmp .lss, [.tmp 44, .const (.int .i64 0)], (some (42, false))⟩,
          ⟨(some 46), .pick, [.tmp 42, .const (.bool true), .tmp 45], none⟩,
          ⟨(some 47), .mov, [.tmp 46], none⟩,
          ⟨(some 48), .faddr 3, [.tmp 5], (some (47, false))⟩,
          ⟨(some 49), .load 1 false, [.tmp 48], (some (47, false))⟩,
          ⟨(some 50), .cmp .gtr, [.tmp 49, .const (.int .i64 20000000)], (some (47, false))⟩,
          ⟨(some 51), .pick, [.tmp 47, .const (.bool true), .tmp 50], none⟩,
          ⟨(some 52), .mov, [.tmp 51], none⟩,
          ⟨(some 53), .faddr 4, [.tmp 5], (some (52, false))⟩,
          ⟨(some 54), .load 1 false, [.tmp 53], (some (52, false))⟩,
          ⟨(some 55), .cmp .lss, [.tmp 54, .const (.int .i64 0)], (some (52, false))⟩,
          ⟨(some 56), .pick, [.tmp 52, .const (.bool true), .tmp 55], none⟩,
          ⟨(some 57), .mov, [.tmp 56], none⟩,
          ⟨(some 58), .faddr 4, [.tmp 5], (some (57, false))⟩,
          ⟨(some 59), .load 1 false, [.tmp 58], (some (57, false))⟩,
          ⟨(some 60), .cmp .gtr, [.tmp 59, .const (.int .i64 100000000)], (some (57, false))⟩,
          ⟨(some 61), .pick, [.tmp 57, .const (.bool true), .tmp 60], none⟩] false)
        (.cond (.tmp 61)
          (.seq (.ops [
            ⟨(some 2), .mov, [.const (.int .i64 2)], none⟩] false)
          .ret)
          .skip))
        (.seq (.seq (.ops [
          ⟨(some 62), .faddr 5, [.tmp 5], none⟩,
          ⟨(some 63), .load 1 false, [.tmp 62], none⟩,
          ⟨(some 64), .cmp .lss, [.tmp 63, .const (.int .i64 0)], none⟩,
          ⟨(some 65), .mov, [.tmp 64], none⟩,
          ⟨(some 66), .faddr 5, [.tmp 5], (some (65, false))⟩,
          ⟨(some 67), .load 1 false, [.tmp 66], (some (65, false))⟩,
          ⟨(some 68), .faddr 4, [.tmp 5], (some (65, false))⟩,
          ⟨(some 69), .load 1 false, [.tmp 68], (some (65, false))⟩,
          ⟨(some 70), .cmp .gtr, [.tmp 67, .tmp 69], (some (65, false))⟩,
          ⟨(some 71), .pick, [.tmp 65, .const (.bool true), .tmp 70], none⟩] false)
        (.cond (.tmp 71)
          (.seq (.ops [
            ⟨(some 2), .mov, [.const (.int .i64 1)], none⟩] false)
          .ret)
          .skip))
        (.seq (.seq (.ops [
          ⟨(some 72), .mov, [.tmp 3], none⟩,
          ⟨(some 73), .faddr 0, [.tmp 5], none⟩,
          ⟨(some 74), .load 1 false, [.tmp 73], none⟩,
          ⟨(some 75), .lookup [.bool false] 0 false false, [.tmp 72, .tmp 74], none⟩] false)
        (.cond (.tmp 75)
          (.seq (.ops [
            ⟨(some 2), .mov, [.const (.int .i64 7)], none⟩] false)
          .ret)
          .skip))
        (.ops [
          ⟨(some 76), .mov, [.tmp 3], none⟩,
          ⟨(some 77), .faddr 0, [.tmp 5], none⟩,
          ⟨(some 78), .load 1 false, [.tmp 77], none⟩,
          ⟨none, .mapset 0 false, [.tmp 76, .tmp 78, .const (.bool true)], none⟩] false)))))))
      (.ops [
        ⟨(some 79), .bin .add .i64 false, [.tmp 12, .const (.int .i64 1)], none⟩,
        ⟨(some 12), .mov, [.tmp 79], none⟩] false)))))))
  (.seq (.ops [
    ⟨(some 2), .mov, [.const (.int .i64 0)], none⟩] false)
  .ret)))))⟩
theorem srightLow : lowF Try.prog {} Try.f11 = some srightIr := by kernel_rfl
def srightS : Spec := spec (List Sale) (fun l => [L 6 (l.map encE)]) (fun l => l.length ≤ 1000000) (fun l => I (salesE l))
set_option maxHeartbeats 4000000 in
theorem srightV : fnV Try.prog srightIr srightS := by
  intro (l : List Sale) hx
  replace hx : l.length ≤ 1000000 := hx
  have hl : (l.map encE).length = l.length := List.length_map ..
  show vc _ _ _ _ ⟨argEnv 0 [L 6 (l.map encE)], [], 0⟩
  by_cases hb : 2000 < l.length
  · repeat' ((conv => whnf); first | (refine ⟨fun h => ?_, fun h => ?_⟩ <;> try (exfalso; first | omega | exact absurd h (by decide) | exact h rfl)) | fail | fail)
    all_goals (refine ⟨[], rfl, trivial, congrArg (CV.int .i64) ?_⟩; exact ((show salesE l = 4 from if_pos hb)).symm)
  have hT : salesE l = fe (saleE l) l.length := if_neg hb
  repeat' ((conv => whnf); first | (refine ⟨fun h => ?_, fun h => ?_⟩ <;> try (exfalso; first | omega | exact absurd h (by decide) | exact h rfl)) | fail | fail)
  refine ⟨Nat × (List (List Int × List CV)), fun xq => ⟨[(3, .mp 0), (10, L 6 (l.map encE)), (11, I (l.map encE).length), (12, I xq.1)], [(0, .map 0 false xq.2)], 1⟩, fun xq => (xq.1 ≤ l.length ∧ fe (saleE l) xq.1 = 0) ∧ xq.2 = kvB (keysE l xq.1), fun xq => l.length - xq.1, ⟨(0, _), ?_, [], ⟨⟨rfl, rfl⟩, ⟨⟨rfl, rfl⟩, ⟨⟨rfl, rfl⟩, ⟨⟨rfl, rfl⟩, trivial⟩⟩⟩⟩, ⟨⟨rfl, rfl, rfl⟩, trivial⟩, rfl, rfl, rfl⟩, ?_⟩
  · (try dsimp only); exact ⟨⟨Nat.zero_le _, rfl⟩, rfl⟩
  rintro ⟨k, kv⟩ hk
  obtain ⟨⟨hk, h0⟩, rfl⟩ : (k ≤ l.length ∧ fe (saleE l) k = 0) ∧ kv = kvB (keysE l k) := hk
  (try dsimp only)
  by_cases hkl : k < l.length
  · obtain ⟨x, hx⟩ := getElem_some hkl
    have hE : saleE l k = if ¬ saleP x then 2 else if ¬ within x.fee 0 x.paid then 1 else if seenB l k x.serial = true then 7 else 0 := by unfold saleE; rw [at_of hx]
    have hp0 : saleP x = ((1 ≤ x.serial ∧ x.serial ≤ 9999) ∧ (1 ≤ x.product ∧ x.product ≤ 9999) ∧ (1 ≤ x.seller ∧ x.seller ≤ 8) ∧ (0 ≤ x.time ∧ x.time ≤ 20000000) ∧ 0 ≤ x.paid ∧ x.paid ≤ 100000000) := rfl
    have hw0 : within x.fee 0 x.paid = (0 ≤ x.fee ∧ x.fee ≤ x.paid) := rfl
    by_cases hp : saleP x
    · rw [if_neg (Decidable.not_not.2 hp)] at hE
      rw [hp0] at hp
      by_cases hw : within x.fee 0 x.paid
      · rw [if_neg (Decidable.not_not.2 hw)] at hE
        rw [hw0] at hw
        cases hs : seenB l k x.serial with
        | true =>
          repeat' ((conv => whnf); first | refine lookB_in (seen_iff.2 hs) ?_ | (refine ⟨fun h => ?_, fun h => ?_⟩ <;> try (exfalso; first | omega | exact absurd h (by decide) | exact h rfl)) | (refine ⟨by omega, fun r hrr => ?_⟩; first | ((have hre : r = encE x := by (first | exact get_row hrr hx | fail)); subst hre)) | fail | fail)
          all_goals (refine ⟨[], rfl, trivial, congrArg (CV.int .i64) ?_⟩; exact (hT.trans (fe_hit hkl h0 (hE.trans (if_pos hs)) (by decide))).symm)
        | false =>
          have hni : x.serial ∉ keysE l k := fun h => by rw [seen_iff.1 h] at hs; cases hs
          repeat' ((conv => whnf); first | refine lookB_out hni ?_ | (refine ⟨fun h => ?_, fun h => ?_⟩ <;> try (exfalso; first | omega | exact absurd h (by decide) | exact h rfl)) | (refine ⟨by omega, fun r hrr => ?_⟩; first | ((have hre : r = encE x := by (first | exact get_row hrr hx | fail)); subst hre)) | (refine ⟨(k + 1, _), ⟨?_, by (try dsimp only); omega⟩, [], ⟨⟨rfl, rfl⟩, ⟨⟨rfl, rfl⟩, ⟨⟨rfl, rfl⟩, ⟨⟨rfl, rfl⟩, trivial⟩⟩⟩⟩, ⟨⟨rfl, rfl, rfl⟩, trivial⟩, rfl, rfl, rfl⟩; (try dsimp only); exact ⟨⟨by omega, fe_go h0 (hE.trans (if_neg (by rw [hs]; decide)))⟩, by rw [setB_out hni, keysE_snoc hx]⟩) | refine ⟨⟨by omega, by omega⟩, ?_⟩ | fail)
      · have hE' := hE.trans (if_pos hw)
        rw [hw0] at hw
        repeat' ((conv => whnf); first | (refine ⟨fun h => ?_, fun h => ?_⟩ <;> try (exfalso; first | omega | exact absurd h (by decide) | exact h rfl)) | (refine ⟨by omega, fun r hrr => ?_⟩; first | ((have hre : r = encE x := by (first | exact get_row hrr hx | fail)); subst hre)) | fail | fail)
        all_goals (refine ⟨[], rfl, trivial, congrArg (CV.int .i64) ?_⟩; exact (hT.trans (fe_hit hkl h0 hE' (by decide))).symm)
    · have hE' := hE.trans (if_pos hp)
      rw [hp0] at hp
      repeat' ((conv => whnf); first | (refine ⟨fun h => ?_, fun h => ?_⟩ <;> try (exfalso; first | omega | exact absurd h (by decide) | exact h rfl)) | (refine ⟨by omega, fun r hrr => ?_⟩; first | ((have hre : r = encE x := by (first | exact get_row hrr hx | fail)); subst hre)) | fail | fail)
      all_goals (refine ⟨[], rfl, trivial, congrArg (CV.int .i64) ?_⟩; exact (hT.trans (fe_hit hkl h0 hE' (by decide))).symm)
  · have hkn : k = l.length := by omega
    subst hkn
    repeat' ((conv => whnf); first | (refine ⟨fun h => ?_, fun h => ?_⟩ <;> try (exfalso; first | omega | exact absurd h (by decide) | exact h rfl)) | fail | fail)
    all_goals (refine ⟨[], rfl, trivial, congrArg (CV.int .i64) ?_⟩; exact (hT.trans h0).symm)
theorem sright_h : Holds Try.prog 11 srightS := holds_of mix Try.func11 srightLow (fun _ => rfl) srightV

/-! skiarea/skiarearef35.Right -/
def rsrightIr : IFn := ⟨66, [.tmp 2],
  (.seq (.ops [
    ⟨(some 2), .mov, [.const (.int .i64 0)], none⟩] false)
  (.seq (.seq (.ops [
    ⟨(some 6), .mov, [.tmp 0], none⟩,
    ⟨(some 7), .len, [.tmp 6], none⟩,
    ⟨(some 8), .cmp .gtr, [.tmp 7, .const (.int .i64 2000)], none⟩] false)
  (.cond (.tmp 8)
    (.seq (.ops [
      ⟨(some 2), .mov, [.const (.int .i64 4)], none⟩] false)
    .ret)
    .skip))
  (.seq (.seq (.ops [
    ⟨(some 3), .mov, [.const (.int .i64 0)], none⟩] false)
  (.block 0
    (.loop
      (.seq (.seq (.ops [
        ⟨(some 9), .mov, [.tmp 3], none⟩,
        ⟨(some 10), .mov, [.tmp 0], none⟩,
        ⟨(some 11), .len, [.tmp 10], none⟩,
        ⟨(some 12), .cmp .lss, [.tmp 9, .tmp 11], none⟩] false)
      (.cond (.tmp 12)
        .skip
        (.exit 0)))
      (.seq (.block 1
        (.seq (.ops [
          ⟨(some 15), .mov, [.tmp 0], none⟩,
          ⟨(some 16), .mov, [.tmp 3], none⟩,
          ⟨(some 17), .idx 6, [.tmp 15, .tmp 16], none⟩,
          ⟨(some 18), .load 6 true, [.tmp 17], none⟩,
          ⟨(some 4), .alloc [.int .i64 0, .int .i64 0, .int .i64 0, .int .i64 0, .int .i64 0, .int .i64 0], [], none⟩,
          ⟨none, .store 6, [.tmp 4, .tmp 18], none⟩] false)
        (.seq (.seq (.ops [
          ⟨(some 19), .faddr 0, [.tmp 4], none⟩,
          ⟨(some 20), .load 1 false, [.tmp 19], none⟩,
          ⟨(some 21), .call 25, [.tmp 20, .const (.int .i64 1), .const (.int .i64 9999)], none⟩,
          ⟨(some 22), .not, [.tmp 21], none⟩,
          ⟨(some 23), .mov, [.tmp 22], none⟩,
          ⟨(some 24), .faddr 1, [.tmp 4], (some (23, false))⟩,
          ⟨(some 25), .load 1 false, [.tmp 24], (some (23, false))⟩,
          ⟨(some 26), .call 25, [.tmp 25, .const (.int .i64 1), .const (.int .i64 9999)], (some (23, false))⟩,
          ⟨(some 27), .not, [.tmp 26], (some (23, false))⟩,
          ⟨(some 28), .pick, [.tmp 23, .const (.bool true), .tmp 27], none⟩,
          ⟨(some 29), .mov, [.tmp 28], none⟩,
          ⟨(some 30), .faddr 2, [.tmp 4], (some (29, false))⟩,
          ⟨(some 31), .load 1 false, [.tmp 30], (some (29, false))⟩,
          ⟨(some 32), .call 25, [.tmp 31, .const (.int .i64 1), .const (.int .i64 8)], (some (29, false))⟩,
          ⟨(some 33), .not, [.tmp 32], (some (29, false))⟩,
          ⟨(some 34), .pick, [.tmp 29, .const (.bool true), .tmp 33], none⟩,
          ⟨(some 35), .mov, [.tmp 34], none⟩,
          ⟨(some 36), .faddr 3, [.tmp 4], (some (35, false))⟩,
          ⟨(some 37), .load 1 false, [.tmp 36], (some (35, false))⟩,
          ⟨(some 38), .call 25, [.tmp 37, .const (.int .i64 0), .const (.int .i64 20000000)], (some (35, false))⟩,
          ⟨(some 39), .not, [.tmp 38], (some (35, false))⟩,
          ⟨(some 40), .pick, [.tmp 35, .const (.bool true), .tmp 39], none⟩,
          ⟨(some 41), .mov, [.tmp 40], none⟩,
          ⟨(some 42), .faddr 4, [.tmp 4], (some (41, false))⟩,
          ⟨(some 43), .load 1 false, [.tmp 42], (some (41, false))⟩,
          ⟨(some 44), .call 25, [.tmp 43, .const (.int .i64 0), .const (.int .i64 100000000)], (some (41, false))⟩,
          ⟨(some 45), .not, [.tmp 44], (some (41, false))⟩,
          ⟨(some 46), .pick, [.tmp 41, .const (.bool true), .tmp 45], none⟩] false)
        (.cond (.tmp 46)
          (.seq (.ops [
            ⟨(some 2), .mov, [.const (.int .i64 2)], none⟩] false)
          .ret)
          .skip))
        (.seq (.seq (.ops [
          ⟨(some 47), .faddr 5, [.tmp 4], none⟩,
          ⟨(some 48), .load 1 false, [.tmp 47], none⟩,
          ⟨(some 49), .faddr 4, [.tmp 4], none⟩,
          ⟨(some 50), .load 1 false, [.tmp 49], none⟩,
          ⟨(some 51), .call 25, [.tmp 48, .const (.int .i64 0), .tmp 50], none⟩,
          ⟨(some 52), .not, [.tmp 51], none⟩] false)
        (.cond (.tmp 52)
          (.seq (.ops [
            ⟨(some 2), .mov, [.const (.int .i64 1)], none⟩] false)
          .ret)
          .skip))
        (.seq (.ops [
          ⟨(some 5), .mov, [.const (.int .i64 0)], none⟩] false)
        (.block 2
          (.loop
            (.seq (.seq (.ops [
              ⟨(some 53), .mov, [.tmp 5], none⟩,
              ⟨(some 54), .mov, [.tmp 3], none⟩,
              ⟨(some 55), .cmp .lss, [.tmp 53, .tmp 54], none⟩] false)
            (.cond (.tmp 55)
              .skip
              (.exit 2)))
            (.seq (.block 3
              (.seq (.ops [
                ⟨(some 58), .mov, [.tmp 0], none⟩,
                ⟨(some 59), .mov, [.tmp 5], none⟩,
                ⟨(some 60), .idx 6, [.tmp 58, .tmp 59], none⟩,
                ⟨(some 61), .faddr 0, [.tmp 60], none⟩,
                ⟨(some 62), .load 1 false, [.tmp 61], none⟩,
                ⟨(some 63), .faddr 0, [.tmp 4], none⟩,
                ⟨(some 64), .load 1 false, [.tmp 63], none⟩,
                ⟨(some 65), .cmp .eql, [.tmp 62, .tmp 64], none⟩] true)
              (.cond (.tmp 65)
                (.seq (.ops [
                  ⟨(some 2), .mov, [.const (.int .i64 7)], none⟩] false)
                .ret)
                .skip)))
            (.ops [
              ⟨(some 56), .mov, [.tmp 5], none⟩,
              ⟨(some 57), .bin .add .i64 false, [.tmp 56, .const (.int .i64 1)], none⟩,
              ⟨(some 5), .mov, [.tmp 57], none⟩] false))))))))))
      (.ops [
        ⟨(some 13), .mov, [.tmp 3], none⟩,
        ⟨(some 14), .bin .add .i64 false, [.tmp 13, .const (.int .i64 1)], none⟩,
        ⟨(some 3), .mov, [.tmp 14], none⟩] false))))))
  (.seq (.ops [
    ⟨(some 2), .mov, [.const (.int .i64 0)], none⟩] false)
  .ret))))⟩
theorem rsrightLow : lowF Try.prog {} Try.f12 = some rsrightIr := by kernel_rfl
def rsrightS : Spec := spec (List Sale) (fun l => [L 6 (l.map encE)]) (fun l => l.length ≤ 1000000) (fun l => I (salesE l))
set_option maxHeartbeats 4000000 in
theorem rsrightV : fnV Try.prog rsrightIr rsrightS := by
  intro (l : List Sale) hx
  replace hx : l.length ≤ 1000000 := hx
  have hl : (l.map encE).length = l.length := List.length_map ..
  show vc _ _ _ _ ⟨argEnv 0 [L 6 (l.map encE)], [], 0⟩
  by_cases hb : 2000 < l.length
  · repeat' ((conv => whnf); first | (refine ⟨fun h => ?_, fun h => ?_⟩ <;> try (exfalso; first | omega | exact absurd h (by decide) | exact h rfl)) | fail | fail)
    all_goals (refine ⟨[], rfl, trivial, congrArg (CV.int .i64) ?_⟩; exact ((show salesE l = 4 from if_pos hb)).symm)
  have hT : salesE l = fe (saleE l) l.length := if_neg hb
  repeat' ((conv => whnf); first | (refine ⟨fun h => ?_, fun h => ?_⟩ <;> try (exfalso; first | omega | exact absurd h (by decide) | exact h rfl)) | fail | fail)
  refine ⟨Nat, fun xq => ⟨[(0, L 6 (l.map encE)), (3, I xq)], [], 0⟩, fun xq => xq ≤ l.length ∧ fe (saleE l) xq = 0, fun xq => l.length - xq, ⟨0, ?_, [], ⟨⟨rfl, rfl⟩, ⟨⟨rfl, rfl⟩, trivial⟩⟩, trivial, rfl, rfl, rfl⟩, ?_⟩
  · (try dsimp only); exact ⟨Nat.zero_le _, rfl⟩
  rintro k hk
  obtain ⟨hk, h0⟩ : k ≤ l.length ∧ fe (saleE l) k = 0 := hk
  (try dsimp only)
  by_cases hkl : k < l.length
  · obtain ⟨x, hx⟩ := getElem_some hkl
    have hE : saleE l k = if ¬ saleP x then 2 else if ¬ within x.fee 0 x.paid then 1 else if seenB l k x.serial = true then 7 else 0 := by unfold saleE; rw [at_of hx]
    cases d0 : decide (within x.serial 1 9999) with
    | false =>
      repeat' ((conv => whnf); first | (refine ⟨fun h => ?_, fun h => ?_⟩ <;> try (exfalso; first | omega | exact absurd h (by decide) | exact h rfl)) | (refine ⟨by omega, fun r hrr => ?_⟩; first | ((have hre : r = encE x := by (first | exact get_row hrr hx | fail)); subst hre)) | (refine ⟨_, sin_h, (x.serial, 1, 9999), trivial, leVs_of_eq rfl, .inl rfl, rfl, ?_⟩; show norm (B (decide (within (x.serial) 1 9999))) _; rw [d0]) | fail | fail)
      all_goals (refine ⟨[], rfl, trivial, congrArg (CV.int .i64) ?_⟩; exact (hT.trans (fe_hit hkl h0 (hE.trans (if_pos fun h => of_decide_eq_false d0 h.1)) (by decide))).symm)
    | true =>
      cases d1 : decide (within x.product 1 9999) with
      | false =>
        repeat' ((conv => whnf); first | (refine ⟨fun h => ?_, fun h => ?_⟩ <;> try (exfalso; first | omega | exact absurd h (by decide) | exact h rfl)) | (refine ⟨by omega, fun r hrr => ?_⟩; first | ((have hre : r = encE x := by (first | exact get_row hrr hx | fail)); subst hre)) | (refine ⟨_, sin_h, (x.serial, 1, 9999), trivial, leVs_of_eq rfl, .inl rfl, rfl, ?_⟩; show norm (B (decide (within (x.serial) 1 9999))) _; rw [d0]) | (refine ⟨_, sin_h, (x.product, 1, 9999), trivial, leVs_of_eq rfl, .inl rfl, rfl, ?_⟩; show norm (B (decide (within (x.product) 1 9999))) _; rw [d1]) | fail | fail)
        all_goals (refine ⟨[], rfl, trivial, congrArg (CV.int .i64) ?_⟩; exact (hT.trans (fe_hit hkl h0 (hE.trans (if_pos fun h => of_decide_eq_false d1 h.2.1)) (by decide))).symm)
      | true =>
        cases d2 : decide (within x.seller 1 8) with
        | false =>
          repeat' ((conv => whnf); first | (refine ⟨fun h => ?_, fun h => ?_⟩ <;> try (exfalso; first | omega | exact absurd h (by decide) | exact h rfl)) | (refine ⟨by omega, fun r hrr => ?_⟩; first | ((have hre : r = encE x := by (first | exact get_row hrr hx | fail)); subst hre)) | (refine ⟨_, sin_h, (x.serial, 1, 9999), trivial, leVs_of_eq rfl, .inl rfl, rfl, ?_⟩; show norm (B (decide (within (x.serial) 1 9999))) _; rw [d0]) | (refine ⟨_, sin_h, (x.product, 1, 9999), trivial, leVs_of_eq rfl, .inl rfl, rfl, ?_⟩; show norm (B (decide (within (x.product) 1 9999))) _; rw [d1]) | (refine ⟨_, sin_h, (x.seller, 1, 8), trivial, leVs_of_eq rfl, .inl rfl, rfl, ?_⟩; show norm (B (decide (within (x.seller) 1 8))) _; rw [d2]) | fail | fail)
          all_goals (refine ⟨[], rfl, trivial, congrArg (CV.int .i64) ?_⟩; exact (hT.trans (fe_hit hkl h0 (hE.trans (if_pos fun h => of_decide_eq_false d2 h.2.2.1)) (by decide))).symm)
        | true =>
          cases d3 : decide (within x.time 0 20000000) with
          | false =>
            repeat' ((conv => whnf); first | (refine ⟨fun h => ?_, fun h => ?_⟩ <;> try (exfalso; first | omega | exact absurd h (by decide) | exact h rfl)) | (refine ⟨by omega, fun r hrr => ?_⟩; first | ((have hre : r = encE x := by (first | exact get_row hrr hx | fail)); subst hre)) | (refine ⟨_, sin_h, (x.serial, 1, 9999), trivial, leVs_of_eq rfl, .inl rfl, rfl, ?_⟩; show norm (B (decide (within (x.serial) 1 9999))) _; rw [d0]) | (refine ⟨_, sin_h, (x.product, 1, 9999), trivial, leVs_of_eq rfl, .inl rfl, rfl, ?_⟩; show norm (B (decide (within (x.product) 1 9999))) _; rw [d1]) | (refine ⟨_, sin_h, (x.seller, 1, 8), trivial, leVs_of_eq rfl, .inl rfl, rfl, ?_⟩; show norm (B (decide (within (x.seller) 1 8))) _; rw [d2]) | (refine ⟨_, sin_h, (x.time, 0, 20000000), trivial, leVs_of_eq rfl, .inl rfl, rfl, ?_⟩; show norm (B (decide (within (x.time) 0 20000000))) _; rw [d3]) | fail | fail)
            all_goals (refine ⟨[], rfl, trivial, congrArg (CV.int .i64) ?_⟩; exact (hT.trans (fe_hit hkl h0 (hE.trans (if_pos fun h => of_decide_eq_false d3 h.2.2.2.1)) (by decide))).symm)
          | true =>
            cases d4 : decide (within x.paid 0 100000000) with
            | false =>
              repeat' ((conv => whnf); first | (refine ⟨fun h => ?_, fun h => ?_⟩ <;> try (exfalso; first | omega | exact absurd h (by decide) | exact h rfl)) | (refine ⟨by omega, fun r hrr => ?_⟩; first | ((have hre : r = encE x := by (first | exact get_row hrr hx | fail)); subst hre)) | (refine ⟨_, sin_h, (x.serial, 1, 9999), trivial, leVs_of_eq rfl, .inl rfl, rfl, ?_⟩; show norm (B (decide (within (x.serial) 1 9999))) _; rw [d0]) | (refine ⟨_, sin_h, (x.product, 1, 9999), trivial, leVs_of_eq rfl, .inl rfl, rfl, ?_⟩; show norm (B (decide (within (x.product) 1 9999))) _; rw [d1]) | (refine ⟨_, sin_h, (x.seller, 1, 8), trivial, leVs_of_eq rfl, .inl rfl, rfl, ?_⟩; show norm (B (decide (within (x.seller) 1 8))) _; rw [d2]) | (refine ⟨_, sin_h, (x.time, 0, 20000000), trivial, leVs_of_eq rfl, .inl rfl, rfl, ?_⟩; show norm (B (decide (within (x.time) 0 20000000))) _; rw [d3]) | (refine ⟨_, sin_h, (x.paid, 0, 100000000), trivial, leVs_of_eq rfl, .inl rfl, rfl, ?_⟩; show norm (B (decide (within (x.paid) 0 100000000))) _; rw [d4]) | fail | fail)
              all_goals (refine ⟨[], rfl, trivial, congrArg (CV.int .i64) ?_⟩; exact (hT.trans (fe_hit hkl h0 (hE.trans (if_pos fun h => of_decide_eq_false d4 h.2.2.2.2)) (by decide))).symm)
            | true =>
              have hc : saleP x := ⟨of_decide_eq_true d0, of_decide_eq_true d1, of_decide_eq_true d2, of_decide_eq_true d3, of_decide_eq_true d4⟩
              rw [if_neg (Decidable.not_not.2 hc)] at hE
              cases df : decide (within x.fee 0 x.paid) with
              | false =>
                repeat' ((conv => whnf); first | (refine ⟨fun h => ?_, fun h => ?_⟩ <;> try (exfalso; first | omega | exact absurd h (by decide) | exact h rfl)) | (refine ⟨by omega, fun r hrr => ?_⟩; first | ((have hre : r = encE x := by (first | exact get_row hrr hx | fail)); subst hre)) | (refine ⟨_, sin_h, (x.serial, 1, 9999), trivial, leVs_of_eq rfl, .inl rfl, rfl, ?_⟩; show norm (B (decide (within (x.serial) 1 9999))) _; rw [d0]) | (refine ⟨_, sin_h, (x.product, 1, 9999), trivial, leVs_of_eq rfl, .inl rfl, rfl, ?_⟩; show norm (B (decide (within (x.product) 1 9999))) _; rw [d1]) | (refine ⟨_, sin_h, (x.seller, 1, 8), trivial, leVs_of_eq rfl, .inl rfl, rfl, ?_⟩; show norm (B (decide (within (x.seller) 1 8))) _; rw [d2]) | (refine ⟨_, sin_h, (x.time, 0, 20000000), trivial, leVs_of_eq rfl, .inl rfl, rfl, ?_⟩; show norm (B (decide (within (x.time) 0 20000000))) _; rw [d3]) | (refine ⟨_, sin_h, (x.paid, 0, 100000000), trivial, leVs_of_eq rfl, .inl rfl, rfl, ?_⟩; show norm (B (decide (within (x.paid) 0 100000000))) _; rw [d4]) | (refine ⟨_, sin_h, (x.fee, 0, x.paid), trivial, leVs_of_eq rfl, .inl rfl, rfl, ?_⟩; show norm (B (decide (within x.fee 0 x.paid))) _; rw [df]) | fail | fail)
                all_goals (refine ⟨[], rfl, trivial, congrArg (CV.int .i64) ?_⟩; exact (hT.trans (fe_hit hkl h0 (hE.trans (if_pos (of_decide_eq_false df))) (by decide))).symm)
              | true =>
                rw [if_neg (Decidable.not_not.2 (of_decide_eq_true df))] at hE
                repeat' ((conv => whnf); first | (refine ⟨fun h => ?_, fun h => ?_⟩ <;> try (exfalso; first | omega | exact absurd h (by decide) | exact h rfl)) | (refine ⟨by omega, fun r hrr => ?_⟩; first | ((have hre : r = encE x := by (first | exact get_row hrr hx | fail)); subst hre)) | (refine ⟨_, sin_h, (x.serial, 1, 9999), trivial, leVs_of_eq rfl, .inl rfl, rfl, ?_⟩; show norm (B (decide (within (x.serial) 1 9999))) _; rw [d0]) | (refine ⟨_, sin_h, (x.product, 1, 9999), trivial, leVs_of_eq rfl, .inl rfl, rfl, ?_⟩; show norm (B (decide (within (x.product) 1 9999))) _; rw [d1]) | (refine ⟨_, sin_h, (x.seller, 1, 8), trivial, leVs_of_eq rfl, .inl rfl, rfl, ?_⟩; show norm (B (decide (within (x.seller) 1 8))) _; rw [d2]) | (refine ⟨_, sin_h, (x.time, 0, 20000000), trivial, leVs_of_eq rfl, .inl rfl, rfl, ?_⟩; show norm (B (decide (within (x.time) 0 20000000))) _; rw [d3]) | (refine ⟨_, sin_h, (x.paid, 0, 100000000), trivial, leVs_of_eq rfl, .inl rfl, rfl, ?_⟩; show norm (B (decide (within (x.paid) 0 100000000))) _; rw [d4]) | (refine ⟨_, sin_h, (x.fee, 0, x.paid), trivial, leVs_of_eq rfl, .inl rfl, rfl, ?_⟩; show norm (B (decide (within x.fee 0 x.paid))) _; rw [df]) | fail | fail)
                refine ⟨Nat, fun xq => ⟨[(0, L 6 (l.map encE)), (3, I k), (4, .bp 0 0), (5, I xq)], [(0, .box ((encE x).map .c))], 1⟩, fun xq => xq ≤ k ∧ ∀ y ∈ l.take xq, decide (y.serial = x.serial) = false, fun xq => k - xq, ⟨0, ?_, [], ⟨⟨rfl, rfl⟩, ⟨⟨rfl, rfl⟩, ⟨⟨rfl, rfl⟩, ⟨⟨rfl, rfl⟩, trivial⟩⟩⟩⟩, ⟨⟨rfl, rfl, rfl⟩, trivial⟩, rfl, rfl, rfl⟩, ?_⟩
                · (try dsimp only); exact ⟨Nat.zero_le _, by simp⟩
                rintro i hk
                obtain ⟨hi, hn⟩ : i ≤ k ∧ ∀ y ∈ l.take i, decide (y.serial = x.serial) = false := hk
                (try dsimp only)
                by_cases hik : i < k
                · obtain ⟨y, hy⟩ := getElem_some (show i < l.length by omega)
                  by_cases hyx : y.serial = x.serial
                  · repeat' ((conv => whnf); first | (refine ⟨fun h => ?_, fun h => ?_⟩ <;> try (exfalso; first | omega | exact absurd h (by decide) | exact h rfl)) | (refine ⟨by omega, fun r hrr => ?_⟩; first | ((have hre : r = encE y := by (first | exact get_row hrr hy | fail)); subst hre)) | refine ⟨⟨by omega, by omega⟩, ?_⟩ | fail | fail)
                    all_goals (refine ⟨[], rfl, trivial, congrArg (CV.int .i64) ?_⟩; exact (hT.trans (fe_hit hkl h0 (hE.trans (if_pos (seen_yes hik hy hyx))) (by decide))).symm)
                  · repeat' ((conv => whnf); first | (refine ⟨fun h => ?_, fun h => ?_⟩ <;> try (exfalso; first | omega | exact absurd h (by decide) | exact h rfl)) | (refine ⟨by omega, fun r hrr => ?_⟩; first | ((have hre : r = encE y := by (first | exact get_row hrr hy | fail)); subst hre)) | (refine ⟨i + 1, ⟨?_, by (try dsimp only); omega⟩, [], ⟨⟨rfl, rfl⟩, ⟨⟨rfl, rfl⟩, ⟨⟨rfl, rfl⟩, ⟨⟨rfl, rfl⟩, trivial⟩⟩⟩⟩, ⟨⟨rfl, rfl, rfl⟩, trivial⟩, rfl, rfl, rfl⟩; (try dsimp only); exact ⟨by omega, first_step hy hn (decide_eq_false hyx)⟩) | refine ⟨⟨by omega, by omega⟩, ?_⟩ | fail)
                · have hik : i = k := by omega
                  subst hik
                  repeat' ((conv => whnf); first | (refine ⟨fun h => ?_, fun h => ?_⟩ <;> try (exfalso; first | omega | exact absurd h (by decide) | exact h rfl)) | (refine ⟨_ + 1, ⟨?_, by (try dsimp only); omega⟩, [], ⟨⟨rfl, rfl⟩, ⟨⟨rfl, rfl⟩, trivial⟩⟩, trivial, rfl, rfl, rfl⟩; (try dsimp only); exact ⟨by omega, fe_go h0 (hE.trans (if_neg (by rw [seen_no hn]; decide)))⟩) | refine ⟨⟨by omega, by omega⟩, ?_⟩ | fail)
  · have hkn : k = l.length := by omega
    subst hkn
    repeat' ((conv => whnf); first | (refine ⟨fun h => ?_, fun h => ?_⟩ <;> try (exfalso; first | omega | exact absurd h (by decide) | exact h rfl)) | fail | fail)
    all_goals (refine ⟨[], rfl, trivial, congrArg (CV.int .i64) ?_⟩; exact (hT.trans h0).symm)
theorem rsright_h : Holds Try.prog 12 rsrightS := holds_of mix Try.func12 rsrightLow (fun _ => rfl) rsrightV

end Go.Proofs.Ytbglmocgijlomaa
