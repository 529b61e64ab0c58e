/- Periods: what is right of postings and counted rides. -/
import Derived.Test.YtpkhannkbafimaaGreatR3
namespace Go.Proofs.YtpkhannkbafimaaGreat
open Go.RowKit

/-! skiarea/ledger.isAccount -/
def isAccIr : IFn := ⟨9, [.tmp 2],
 (.seq (.ops [
 ⟨(some 2), .mov, [.const (.bool false)], none⟩] false)
 (.seq (.ops [
 ⟨(some 3), .mov, [.tmp 0], none⟩,
 ⟨(some 4), .cmp .geq, [.tmp 3, .const (.int .i64 0)], none⟩,
 ⟨(some 5), .mov, [.tmp 4], none⟩,
 ⟨(some 6), .mov, [.tmp 0], (some (5, true))⟩,
 ⟨(some 7), .cmp .leq, [.tmp 6, .const (.int .i64 9999)], (some (5, true))⟩,
 ⟨(some 8), .pick, [.tmp 5, .tmp 7, .const (.bool false)], none⟩,
 ⟨(some 2), .mov, [.tmp 8], none⟩] false)
 .ret))⟩
theorem isAccLow : lowF Tryz.prog {} Tryz.f79 = some isAccIr := by kernel_rfl
def isAccS : Spec := spec Int (fun n => [I n]) (fun _ => True) (fun n => B (decide (accnP n)))
theorem isAccV : fnV Tryz.prog isAccIr isAccS := by
  intro (n : Int) _
  show vc _ _ _ _ ⟨argEnv 0 [I n], [], 0⟩
  repeat' ((conv => whnf); first | (refine ⟨fun h => ?_, fun h => ?_⟩ <;> try (exfalso; first | omega | exact absurd h (by decide) | exact h rfl | exact absurd (show true = false from h) (by decide) | exact absurd (show false = true from h) (by decide))) | refine ⟨[], rfl, trivial, congrArg CV.bool ?_⟩ | fail)
  all_goals first | exact (decide_eq_true (show 0 ≤ n ∧ n ≤ 9999 by omega)).symm | exact (decide_eq_false (show ¬ (0 ≤ n ∧ n ≤ 9999) by omega)).symm
theorem isAcc_h : Holds Tryz.prog 79 isAccS := holds_of mix Tryz.func79 isAccLow (fun _ => rfl) isAccV

/-! skiarea/ledger.Right -/
def lrightIr : IFn := ⟨59, [.tmp 2],
 (.seq (.ops [
 ⟨(some 2), .mov, [.const (.int .i64 0)], none⟩] false)
 (.seq (.seq (.ops [
 ⟨(some 6), .mov, [.tmp 0], none⟩,
 ⟨(some 7), .len, [.tmp 6], none⟩,
 ⟨(some 8), .cmp .gtr, [.tmp 7, .const (.int .i64 2000)], none⟩] false)
 (.cond (.tmp 8)
 (.seq (.ops [
 ⟨(some 2), .mov, [.const (.int .i64 4)], none⟩] false)
 .ret)
 .skip))
 (.seq (.ops [
 ⟨(some 9), .mkmap 0 false, [], none⟩,
 ⟨(some 3), .mov, [.tmp 9], none⟩] false)
 (.seq (.seq (.ops [
 ⟨(some 10), .mov, [.tmp 0], none⟩,
 ⟨(some 11), .len, [.tmp 10], none⟩,
 ⟨(some 12), .mov, [.const (.int .i64 0)], none⟩] false)
 (.block 0
 (.loop
 (.seq (.ops [
 ⟨(some 13), .cmp .lss, [.tmp 12, .tmp 11], none⟩] false)
 (.seq (.cond (.tmp 13)
 .skip
 (.exit 0))
 (.seq (.block 1
 (.seq (.ops [
 ⟨(some 14), .idx 4, [.tmp 10, .tmp 12], none⟩,
 ⟨(some 15), .load 4 true, [.tmp 14], none⟩,
 ⟨(some 5), .alloc [.int .i64 0, .int .i64 0, .int .i64 0, .int .i64 0], [], none⟩,
 ⟨none, .store 4, [.tmp 5, .tmp 15], none⟩] false)
 (.seq (.seq (.ops [
 ⟨(some 16), .faddr 0, [.tmp 5], none⟩,
 ⟨(some 17), .load 1 false, [.tmp 16], none⟩,
 ⟨(some 18), .cmp .lss, [.tmp 17, .const (.int .i64 1)], none⟩,
 ⟨(some 19), .mov, [.tmp 18], none⟩,
 ⟨(some 20), .faddr 0, [.tmp 5], (some (19, false))⟩,
 ⟨(some 21), .load 1 false, [.tmp 20], (some (19, false))⟩,
 ⟨(some 22), .cmp .gtr, [.tmp 21, .const (.int .i64 1000000000)], (some (19, false))⟩,
 ⟨(some 23), .pick, [.tmp 19, .const (.bool true), .tmp 22], none⟩,
 ⟨(some 24), .mov, [.tmp 23], none⟩,
 ⟨(some 25), .faddr 1, [.tmp 5], (some (24, false))⟩,
 ⟨(some 26), .load 1 false, [.tmp 25], (some (24, false))⟩,
 ⟨(some 27), .call 79, [.tmp 26], (some (24, false))⟩,
 ⟨(some 28), .not, [.tmp 27], (some (24, false))⟩,
 ⟨(some 29), .pick, [.tmp 24, .const (.bool true), .tmp 28], none⟩,
 ⟨(some 30), .mov, [.tmp 29], none⟩,
 ⟨(some 31), .faddr 2, [.tmp 5], (some (30, false))⟩,
 ⟨(some 32), .load 1 false, [.tmp 31], (some (30, false))⟩,
 ⟨(some 33), .call 79, [.tmp 32], (some (30, false))⟩,
 ⟨(some 34), .not, [.tmp 33], (some (30, false))⟩,
 ⟨(some 35), .pick, [.tmp 30, .const (.bool true), .tmp 34], none⟩,
 ⟨(some 36), .mov, [.tmp 35], none⟩,
 ⟨(some 37), .faddr 3, [.tmp 5], (some (36, false))⟩,
 ⟨(some 38), .load 1 false, [.tmp 37], (some (36, false))⟩,
 ⟨(some 39), .cmp .lss, [.tmp 38, .const (.int .i64 1)], (some (36, false))⟩,
 ⟨(some 40), .pick, [.tmp 36, .const (.bool true), .tmp 39], none⟩,
 ⟨(some 41), .mov, [.tmp 40], none⟩,
 ⟨(some 42), .faddr 3, [.tmp 5], (some (41, false))⟩,
 ⟨(some 43), .load 1 false, [.tmp 42], (some (41, false))⟩,
 ⟨(some 44), .cmp .gtr, [.tmp 43, .const (.int .i64 1099511627776)], (some (41, false))⟩,
 ⟨(some 45), .pick, [.tmp 41, .const (.bool true), .tmp 44], none⟩] false)
 (.cond (.tmp 45)
 (.seq (.ops [
 ⟨(some 2), .mov, [.const (.int .i64 2)], none⟩] false)
 .ret)
 .skip))
 (.seq (.seq (.ops [
 ⟨(some 46), .faddr 1, [.tmp 5], none⟩,
 ⟨(some 47), .load 1 false, [.tmp 46], none⟩,
 ⟨(some 48), .faddr 2, [.tmp 5], none⟩,
 ⟨(some 49), .load 1 false, [.tmp 48], none⟩,
 ⟨(some 50), .cmp .eql, [.tmp 47, .tmp 49], none⟩] false)
 (.cond (.tmp 50)
 (.seq (.ops [
 ⟨(some 2), .mov, [.const (.int .i64 1)], none⟩] false)
 .ret)
 .skip))
 (.seq (.seq (.ops [
 ⟨(some 51), .mov, [.tmp 3], none⟩,
 ⟨(some 52), .faddr 0, [.tmp 5], none⟩,
 ⟨(some 53), .load 1 false, [.tmp 52], none⟩,
 ⟨(some 54), .lookup [.bool false] 0 false false, [.tmp 51, .tmp 53], none⟩] false)
 (.cond (.tmp 54)
 (.seq (.ops [
 ⟨(some 2), .mov, [.const (.int .i64 7)], none⟩] false)
 .ret)
 .skip))
 (.ops [
 ⟨(some 55), .mov, [.tmp 3], none⟩,
 ⟨(some 56), .faddr 0, [.tmp 5], none⟩,
 ⟨(some 57), .load 1 false, [.tmp 56], none⟩,
 ⟨none, .mapset 0 false, [.tmp 55, .tmp 57, .const (.bool true)], none⟩] false))))))
 (.ops [
 ⟨(some 58), .bin .add .i64 false, [.tmp 12, .const (.int .i64 1)], none⟩,
 ⟨(some 12), .mov, [.tmp 58], none⟩] false)))))))
 (.seq (.ops [
 ⟨(some 2), .mov, [.const (.int .i64 0)], none⟩] false)
 .ret)))))⟩
theorem lrightLow : lowF Tryz.prog {} Tryz.f42 = some lrightIr := by kernel_rfl
def lrightS : Spec := spec (List Pst) (fun l => [L 4 (l.map encO)]) (fun l => l.length ≤ 9223372036854775807) (fun l => I (ledR l))
theorem lrightV : fnV Tryz.prog lrightIr lrightS := by
  intro (l : List Pst) hx
  replace hx : l.length ≤ 9223372036854775807 := hx
  have hl : (l.map encO).length = l.length := List.length_map ..
  show vc _ _ _ _ ⟨argEnv 0 [L 4 (l.map encO)], [], 0⟩
  by_cases hb : 2000 < l.length
  · repeat' ((conv => whnf); first | (refine ⟨fun h => ?_, fun h => ?_⟩ <;> try (exfalso; first | omega | exact absurd h (by decide) | exact h rfl | exact absurd (show true = false from h) (by decide) | exact absurd (show false = true from h) (by decide))) | fail | fail)
    all_goals (refine ⟨[], rfl, trivial, congrArg (CV.int .i64) ?_⟩; exact ((show ledR l = 4 from if_pos hb)).symm)
  have hT : ledR l = fe (ledE l) l.length := if_neg hb
  repeat' ((conv => whnf); first | (refine ⟨fun h => ?_, fun h => ?_⟩ <;> try (exfalso; first | omega | exact absurd h (by decide) | exact h rfl | exact absurd (show true = false from h) (by decide) | exact absurd (show false = true from h) (by decide))) | fail | fail)
  refine ⟨Nat × (List (List Int × List CV)), fun xq => ⟨[(3, .mp 0), (10, L 4 (l.map encO)), (11, I (l.map encO).length), (12, I xq.1)], [(0, .map 0 false xq.2)], 1⟩, fun xq => (xq.1 ≤ l.length ∧ fe (ledE l) xq.1 = 0) ∧ xq.2 = kvT keyO (l.take xq.1), fun xq => l.length - xq.1, ⟨(0, _), ?_, [], ⟨⟨rfl, rfl⟩, ⟨⟨rfl, rfl⟩, ⟨⟨rfl, rfl⟩, ⟨⟨rfl, rfl⟩, trivial⟩⟩⟩⟩, ⟨⟨rfl, rfl, rfl⟩, trivial⟩, rfl, rfl, rfl⟩, ?_⟩
  · (try dsimp only); exact ⟨⟨Nat.zero_le _, rfl⟩, rfl⟩
  rintro ⟨k, kv⟩ hk
  obtain ⟨⟨hk, h0⟩, rfl⟩ : (k ≤ l.length ∧ fe (ledE l) k = 0) ∧ kv = kvT keyO (l.take k) := hk
  (try dsimp only)
  by_cases hkl : k < l.length
  · obtain ⟨x, hx⟩ := getElem_some hkl
    have hE : ledE l k = if ¬ ledP x then 2 else if x.fr = x.to then 1 else if (l.take k).any (refB x.ref) = true then 7 else 0 := by unfold ledE; rw [at_of hx]
    have hp0 : ledP x = ((1 ≤ x.ref ∧ x.ref ≤ 1000000000) ∧ (0 ≤ x.fr ∧ x.fr ≤ 9999) ∧ (0 ≤ x.to ∧ x.to ≤ 9999) ∧ 1 ≤ x.am ∧ x.am ≤ 1099511627776) := rfl
    cases d1 : decide (accnP x.fr) with
    | false =>
      repeat' ((conv => whnf); first | (refine ⟨fun h => ?_, fun h => ?_⟩ <;> try (exfalso; first | omega | exact absurd h (by decide) | exact h rfl | exact absurd (show true = false from h) (by decide) | exact absurd (show false = true from h) (by decide))) | (refine ⟨by omega, fun r hrr => ?_⟩; first | ((have hre : r = encO x := by (first | exact get_row hrr hx | fail)); subst hre)) | (refine ⟨_, isAcc_h, x.fr, trivial, leVs_of_eq rfl, .inl rfl, rfl, ?_⟩; show norm (B (decide (accnP x.fr))) _; rw [d1]) | fail | fail)
      all_goals (refine ⟨[], rfl, trivial, congrArg (CV.int .i64) ?_⟩; exact (hT.trans (fe_hit hkl h0 (hE.trans (if_pos fun h => of_decide_eq_false d1 h.2.1)) (by decide))).symm)
    | true =>
    cases d2 : decide (accnP x.to) with
    | false =>
      repeat' ((conv => whnf); first | (refine ⟨fun h => ?_, fun h => ?_⟩ <;> try (exfalso; first | omega | exact absurd h (by decide) | exact h rfl | exact absurd (show true = false from h) (by decide) | exact absurd (show false = true from h) (by decide))) | (refine ⟨by omega, fun r hrr => ?_⟩; first | ((have hre : r = encO x := by (first | exact get_row hrr hx | fail)); subst hre)) | (refine ⟨_, isAcc_h, x.fr, trivial, leVs_of_eq rfl, .inl rfl, rfl, ?_⟩; show norm (B (decide (accnP x.fr))) _; rw [d1]) | (refine ⟨_, isAcc_h, x.to, trivial, leVs_of_eq rfl, .inl rfl, rfl, ?_⟩; show norm (B (decide (accnP x.to))) _; rw [d2]) | fail | fail)
      all_goals (refine ⟨[], rfl, trivial, congrArg (CV.int .i64) ?_⟩; exact (hT.trans (fe_hit hkl h0 (hE.trans (if_pos fun h => of_decide_eq_false d2 h.2.2.1)) (by decide))).symm)
    | true =>
    have q1 : 0 ≤ x.fr ∧ x.fr ≤ 9999 := of_decide_eq_true d1
    have q2 : 0 ≤ x.to ∧ x.to ≤ 9999 := of_decide_eq_true d2
    by_cases hp : ledP x
    · rw [if_neg (Decidable.not_not.2 hp)] at hE
      rw [hp0] at hp
      by_cases hw : x.fr = x.to
      · repeat' ((conv => whnf); first | (refine ⟨fun h => ?_, fun h => ?_⟩ <;> try (exfalso; first | omega | exact absurd h (by decide) | exact h rfl | exact absurd (show true = false from h) (by decide) | exact absurd (show false = true from h) (by decide))) | (refine ⟨by omega, fun r hrr => ?_⟩; first | ((have hre : r = encO x := by (first | exact get_row hrr hx | fail)); subst hre)) | (refine ⟨_, isAcc_h, x.fr, trivial, leVs_of_eq rfl, .inl rfl, rfl, ?_⟩; show norm (B (decide (accnP x.fr))) _; rw [d1]) | (refine ⟨_, isAcc_h, x.to, trivial, leVs_of_eq rfl, .inl rfl, rfl, ?_⟩; show norm (B (decide (accnP x.to))) _; rw [d2]) | fail | fail)
        all_goals (refine ⟨[], rfl, trivial, congrArg (CV.int .i64) ?_⟩; exact (hT.trans (fe_hit hkl h0 (hE.trans (if_pos hw)) (by decide))).symm)
      · rw [if_neg hw] at hE
        cases hs : (l.take k).any (refB x.ref) with
        | true =>
          repeat' ((conv => whnf); first | refine lookB_in (refB_key _) hs ?_ | (refine ⟨fun h => ?_, fun h => ?_⟩ <;> try (exfalso; first | omega | exact absurd h (by decide) | exact h rfl | exact absurd (show true = false from h) (by decide) | exact absurd (show false = true from h) (by decide))) | (refine ⟨by omega, fun r hrr => ?_⟩; first | ((have hre : r = encO x := by (first | exact get_row hrr hx | fail)); subst hre)) | (refine ⟨_, isAcc_h, x.fr, trivial, leVs_of_eq rfl, .inl rfl, rfl, ?_⟩; show norm (B (decide (accnP x.fr))) _; rw [d1]) | (refine ⟨_, isAcc_h, x.to, trivial, leVs_of_eq rfl, .inl rfl, rfl, ?_⟩; show norm (B (decide (accnP x.to))) _; rw [d2]) | fail | fail)
          all_goals (refine ⟨[], rfl, trivial, congrArg (CV.int .i64) ?_⟩; exact (hT.trans (fe_hit hkl h0 (hE.trans (if_pos hs)) (by decide))).symm)
        | false =>
          repeat' ((conv => whnf); first | refine lookB_out (refB_key _) hs ?_ | (refine ⟨fun h => ?_, fun h => ?_⟩ <;> try (exfalso; first | omega | exact absurd h (by decide) | exact h rfl | exact absurd (show true = false from h) (by decide) | exact absurd (show false = true from h) (by decide))) | (refine ⟨by omega, fun r hrr => ?_⟩; first | ((have hre : r = encO x := by (first | exact get_row hrr hx | fail)); subst hre)) | (refine ⟨_, isAcc_h, x.fr, trivial, leVs_of_eq rfl, .inl rfl, rfl, ?_⟩; show norm (B (decide (accnP x.fr))) _; rw [d1]) | (refine ⟨_, isAcc_h, x.to, trivial, leVs_of_eq rfl, .inl rfl, rfl, ?_⟩; show norm (B (decide (accnP x.to))) _; rw [d2]) | (refine ⟨(k + 1, _), ⟨?_, by (try dsimp only); omega⟩, [], ⟨⟨rfl, rfl⟩, ⟨⟨rfl, rfl⟩, ⟨⟨rfl, rfl⟩, ⟨⟨rfl, rfl⟩, trivial⟩⟩⟩⟩, ⟨⟨rfl, rfl, rfl⟩, trivial⟩, rfl, rfl, rfl⟩; (try dsimp only); exact ⟨⟨by omega, fe_go h0 (hE.trans (if_neg (by rw [hs]; decide)))⟩, (setT (x := x) (refB_key _) hs).trans (congrArg (kvT keyO) (take_snoc _ _ _ hx).symm)⟩) | refine ⟨⟨by omega, by omega⟩, ?_⟩ | fail)
    · have hE' := hE.trans (if_pos hp)
      rw [hp0] at hp
      repeat' ((conv => whnf); first | (refine ⟨fun h => ?_, fun h => ?_⟩ <;> try (exfalso; first | omega | exact absurd h (by decide) | exact h rfl | exact absurd (show true = false from h) (by decide) | exact absurd (show false = true from h) (by decide))) | (refine ⟨by omega, fun r hrr => ?_⟩; first | ((have hre : r = encO x := by (first | exact get_row hrr hx | fail)); subst hre)) | (refine ⟨_, isAcc_h, x.fr, trivial, leVs_of_eq rfl, .inl rfl, rfl, ?_⟩; show norm (B (decide (accnP x.fr))) _; rw [d1]) | (refine ⟨_, isAcc_h, x.to, trivial, leVs_of_eq rfl, .inl rfl, rfl, ?_⟩; show norm (B (decide (accnP x.to))) _; rw [d2]) | fail | fail)
      all_goals (refine ⟨[], rfl, trivial, congrArg (CV.int .i64) ?_⟩; exact (hT.trans (fe_hit hkl h0 hE' (by decide))).symm)
  · have hkn : k = l.length := by omega
    subst hkn
    repeat' ((conv => whnf); first | (refine ⟨fun h => ?_, fun h => ?_⟩ <;> try (exfalso; first | omega | exact absurd h (by decide) | exact h rfl | exact absurd (show true = false from h) (by decide) | exact absurd (show false = true from h) (by decide))) | fail | fail)
    all_goals (refine ⟨[], rfl, trivial, congrArg (CV.int .i64) ?_⟩; exact (hT.trans h0).symm)
theorem lright_h : Holds Tryz.prog 42 lrightS := holds_of mix Tryz.func42 lrightLow (fun _ => rfl) lrightV

/-! skiarea/skiarearef09.Right -/
def rlrightIr : IFn := ⟨75, [.tmp 2],
 (.seq (.ops [
 ⟨(some 2), .mov, [.const (.int .i64 0)], none⟩] false)
 (.seq (.seq (.ops [
 ⟨(some 6), .mov, [.tmp 0], none⟩,
 ⟨(some 7), .len, [.tmp 6], none⟩,
 ⟨(some 8), .cmp .gtr, [.tmp 7, .const (.int .i64 2000)], none⟩] false)
 (.cond (.tmp 8)
 (.seq (.ops [
 ⟨(some 2), .mov, [.const (.int .i64 4)], none⟩] false)
 .ret)
 .skip))
 (.seq (.seq (.ops [
 ⟨(some 3), .mov, [.const (.int .i64 0)], none⟩] false)
 (.block 0
 (.loop
 (.seq (.seq (.ops [
 ⟨(some 9), .mov, [.tmp 3], none⟩,
 ⟨(some 10), .mov, [.tmp 0], none⟩,
 ⟨(some 11), .len, [.tmp 10], none⟩,
 ⟨(some 12), .cmp .lss, [.tmp 9, .tmp 11], none⟩] false)
 (.cond (.tmp 12)
 .skip
 (.exit 0)))
 (.seq (.block 1
 (.seq (.ops [
 ⟨(some 15), .mov, [.tmp 0], none⟩,
 ⟨(some 16), .mov, [.tmp 3], none⟩,
 ⟨(some 17), .idx 4, [.tmp 15, .tmp 16], none⟩,
 ⟨(some 18), .load 4 true, [.tmp 17], none⟩,
 ⟨(some 4), .alloc [.int .i64 0, .int .i64 0, .int .i64 0, .int .i64 0], [], none⟩,
 ⟨none, .store 4, [.tmp 4, .tmp 18], none⟩] false)
 (.seq (.seq (.ops [
 ⟨(some 19), .faddr 0, [.tmp 4], none⟩,
 ⟨(some 20), .load 1 false, [.tmp 19], none⟩,
 ⟨(some 21), .cmp .lss, [.tmp 20, .const (.int .i64 1)], none⟩,
 ⟨(some 22), .mov, [.tmp 21], none⟩,
 ⟨(some 23), .faddr 0, [.tmp 4], (some (22, false))⟩,
 ⟨(some 24), .load 1 false, [.tmp 23], (some (22, false))⟩,
 ⟨(some 25), .cmp .gtr, [.tmp 24, .const (.int .i64 1000000000)], (some (22, false))⟩,
 ⟨(some 26), .pick, [.tmp 22, .const (.bool true), .tmp 25], none⟩,
 ⟨(some 27), .mov, [.tmp 26], none⟩,
 ⟨(some 28), .faddr 1, [.tmp 4], (some (27, false))⟩,
 ⟨(some 29), .load 1 false, [.tmp 28], (some (27, false))⟩,
 ⟨(some 30), .cmp .lss, [.tmp 29, .const (.int .i64 0)], (some (27, false))⟩,
 ⟨(some 31), .pick, [.tmp 27, .const (.bool true), .tmp 30], none⟩,
 ⟨(some 32), .mov, [.tmp 31], none⟩,
 ⟨(some 33), .faddr 1, [.tmp 4], (some (32, false))⟩,
 ⟨(some 34), .load 1 false, [.tmp 33], (some (32, false))⟩,
 ⟨(some 35), .cmp .gtr, [.tmp 34, .const (.int .i64 9999)], (some (32, false))⟩,
 ⟨(some 36), .pick, [.tmp 32, .const (.bool true), .tmp 35], none⟩,
 ⟨(some 37), .mov, [.tmp 36], none⟩,
 ⟨(some 38), .faddr 2, [.tmp 4], (some (37, false))⟩,
 ⟨(some 39), .load 1 false, [.tmp 38], (some (37, false))⟩,
 ⟨(some 40), .cmp .lss, [.tmp 39, .const (.int .i64 0)], (some (37, false))⟩,
 ⟨(some 41), .pick, [.tmp 37, .const (.bool true), .tmp 40], none⟩,
 ⟨(some 42), .mov, [.tmp 41], none⟩,
 ⟨(some 43), .faddr 2, [.tmp 4], (some (42, false))⟩,
 ⟨(some 44), .load 1 false, [.tmp 43], (some (42, false))⟩,
 ⟨(some 45), .cmp .gtr, [.tmp 44, .const (.int .i64 9999)], (some (42, false))⟩,
 ⟨(some 46), .pick, [.tmp 42, .const (.bool true), .tmp 45], none⟩,
 ⟨(some 47), .mov, [.tmp 46], none⟩,
 ⟨(some 48), .faddr 3, [.tmp 4], (some (47, false))⟩,
 ⟨(some 49), .load 1 false, [.tmp 48], (some (47, false))⟩,
 ⟨(some 50), .cmp .lss, [.tmp 49, .const (.int .i64 1)], (some (47, false))⟩,
 ⟨(some 51), .pick, [.tmp 47, .const (.bool true), .tmp 50], none⟩,
 ⟨(some 52), .mov, [.tmp 51], none⟩,
 ⟨(some 53), .faddr 3, [.tmp 4], (some (52, false))⟩,
 ⟨(some 54), .load 1 false, [.tmp 53], (some (52, false))⟩,
 ⟨(some 55), .cmp .gtr, [.tmp 54, .const (.int .i64 1099511627776)], (some (52, false))⟩,
 ⟨(some 56), .pick, [.tmp 52, .const (.bool true), .tmp 55], none⟩] false)
 (.cond (.tmp 56)
 (.seq (.ops [
 ⟨(some 2), .mov, [.const (.int .i64 2)], none⟩] false)
 .ret)
 .skip))
 (.seq (.seq (.ops [
 ⟨(some 57), .faddr 1, [.tmp 4], none⟩,
 ⟨(some 58), .load 1 false, [.tmp 57], none⟩,
 ⟨(some 59), .faddr 2, [.tmp 4], none⟩,
 ⟨(some 60), .load 1 false, [.tmp 59], none⟩,
 ⟨(some 61), .cmp .eql, [.tmp 58, .tmp 60], none⟩] false)
 (.cond (.tmp 61)
 (.seq (.ops [
 ⟨(some 2), .mov, [.const (.int .i64 1)], none⟩] false)
 .ret)
 .skip))
 (.seq (.ops [
 ⟨(some 5), .mov, [.const (.int .i64 0)], none⟩] false)
 (.block 2
 (.loop
 (.seq (.seq (.ops [
 ⟨(some 62), .mov, [.tmp 5], none⟩,
 ⟨(some 63), .mov, [.tmp 3], none⟩,
 ⟨(some 64), .cmp .lss, [.tmp 62, .tmp 63], none⟩] false)
 (.cond (.tmp 64)
 .skip
 (.exit 2)))
 (.seq (.block 3
 (.seq (.ops [
 ⟨(some 67), .mov, [.tmp 0], none⟩,
 ⟨(some 68), .mov, [.tmp 5], none⟩,
 ⟨(some 69), .idx 4, [.tmp 67, .tmp 68], none⟩,
 ⟨(some 70), .faddr 0, [.tmp 69], none⟩,
 ⟨(some 71), .load 1 false, [.tmp 70], none⟩,
 ⟨(some 72), .faddr 0, [.tmp 4], none⟩,
 ⟨(some 73), .load 1 false, [.tmp 72], none⟩,
 ⟨(some 74), .cmp .eql, [.tmp 71, .tmp 73], none⟩] true)
 (.cond (.tmp 74)
 (.seq (.ops [
 ⟨(some 2), .mov, [.const (.int .i64 7)], none⟩] false)
 .ret)
 .skip)))
 (.ops [
 ⟨(some 65), .mov, [.tmp 5], none⟩,
 ⟨(some 66), .bin .add .i64 false, [.tmp 65, .const (.int .i64 1)], none⟩,
 ⟨(some 5), .mov, [.tmp 66], none⟩] false))))))))))
 (.ops [
 ⟨(some 13), .mov, [.tmp 3], none⟩,
 ⟨(some 14), .bin .add .i64 false, [.tmp 13, .const (.int .i64 1)], none⟩,
 ⟨(some 3), .mov, [.tmp 14], none⟩] false))))))
 (.seq (.ops [
 ⟨(some 2), .mov, [.const (.int .i64 0)], none⟩] false)
 .ret))))⟩
theorem rlrightLow : lowF Tryz.prog {} Tryz.f45 = some rlrightIr := by kernel_rfl
def rlrightS : Spec := spec (List Pst) (fun l => [L 4 (l.map encO)]) (fun l => l.length ≤ 9223372036854775807) (fun l => I (ledR l))
theorem rlrightV : fnV Tryz.prog rlrightIr rlrightS := by
  intro (l : List Pst) hx
  replace hx : l.length ≤ 9223372036854775807 := hx
  have hl : (l.map encO).length = l.length := List.length_map ..
  show vc _ _ _ _ ⟨argEnv 0 [L 4 (l.map encO)], [], 0⟩
  by_cases hb : 2000 < l.length
  · repeat' ((conv => whnf); first | (refine ⟨fun h => ?_, fun h => ?_⟩ <;> try (exfalso; first | omega | exact absurd h (by decide) | exact h rfl | exact absurd (show true = false from h) (by decide) | exact absurd (show false = true from h) (by decide))) | fail | fail)
    all_goals (refine ⟨[], rfl, trivial, congrArg (CV.int .i64) ?_⟩; exact ((show ledR l = 4 from if_pos hb)).symm)
  have hT : ledR l = fe (ledE l) l.length := if_neg hb
  repeat' ((conv => whnf); first | (refine ⟨fun h => ?_, fun h => ?_⟩ <;> try (exfalso; first | omega | exact absurd h (by decide) | exact h rfl | exact absurd (show true = false from h) (by decide) | exact absurd (show false = true from h) (by decide))) | fail | fail)
  refine ⟨Nat, fun xq => ⟨[(0, L 4 (l.map encO)), (3, I xq)], [], 0⟩, fun xq => xq ≤ l.length ∧ fe (ledE l) xq = 0, fun xq => l.length - xq, ⟨0, ?_, [], ⟨⟨rfl, rfl⟩, ⟨⟨rfl, rfl⟩, trivial⟩⟩, trivial, rfl, rfl, rfl⟩, ?_⟩
  · (try dsimp only); exact ⟨Nat.zero_le _, rfl⟩
  rintro k hk
  obtain ⟨hk, h0⟩ : k ≤ l.length ∧ fe (ledE l) k = 0 := hk
  (try dsimp only)
  by_cases hkl : k < l.length
  · obtain ⟨x, hx⟩ := getElem_some hkl
    have hE : ledE l k = if ¬ ledP x then 2 else if x.fr = x.to then 1 else if (l.take k).any (refB x.ref) = true then 7 else 0 := by unfold ledE; rw [at_of hx]
    have hp0 : ledP x = ((1 ≤ x.ref ∧ x.ref ≤ 1000000000) ∧ (0 ≤ x.fr ∧ x.fr ≤ 9999) ∧ (0 ≤ x.to ∧ x.to ≤ 9999) ∧ 1 ≤ x.am ∧ x.am ≤ 1099511627776) := rfl
    by_cases hp : ledP x
    · rw [if_neg (Decidable.not_not.2 hp)] at hE
      rw [hp0] at hp
      by_cases hw : x.fr = x.to
      · repeat' ((conv => whnf); first | (refine ⟨fun h => ?_, fun h => ?_⟩ <;> try (exfalso; first | omega | exact absurd h (by decide) | exact h rfl | exact absurd (show true = false from h) (by decide) | exact absurd (show false = true from h) (by decide))) | (refine ⟨by omega, fun r hrr => ?_⟩; first | ((have hre : r = encO x := by (first | exact get_row hrr hx | fail)); subst hre)) | fail | fail)
        all_goals (refine ⟨[], rfl, trivial, congrArg (CV.int .i64) ?_⟩; exact (hT.trans (fe_hit hkl h0 (hE.trans (if_pos hw)) (by decide))).symm)
      · rw [if_neg hw] at hE
        repeat' ((conv => whnf); first | (refine ⟨fun h => ?_, fun h => ?_⟩ <;> try (exfalso; first | omega | exact absurd h (by decide) | exact h rfl | exact absurd (show true = false from h) (by decide) | exact absurd (show false = true from h) (by decide))) | (refine ⟨by omega, fun r hrr => ?_⟩; first | ((have hre : r = encO x := by (first | exact get_row hrr hx | fail)); subst hre)) | fail | fail)
        refine ⟨Nat, fun xq => ⟨[(0, L 4 (l.map encO)), (3, I k), (4, .bp 0 0), (5, I xq)], [(0, .box ((encO x).map .c))], 1⟩, fun xq => xq ≤ k ∧ ∀ y ∈ l.take xq, refB x.ref y = false, fun xq => k - xq, ⟨0, ?_, [], ⟨⟨rfl, rfl⟩, ⟨⟨rfl, rfl⟩, ⟨⟨rfl, rfl⟩, ⟨⟨rfl, rfl⟩, trivial⟩⟩⟩⟩, ⟨⟨rfl, rfl, rfl⟩, trivial⟩, rfl, rfl, rfl⟩, ?_⟩
        · (try dsimp only); exact ⟨Nat.zero_le _, by simp⟩
        rintro i hk
        obtain ⟨hi, hn⟩ : i ≤ k ∧ ∀ y ∈ l.take i, refB x.ref y = false := hk
        (try dsimp only)
        by_cases hik : i < k
        · obtain ⟨y, hy⟩ := getElem_some (show i < l.length by omega)
          by_cases hyx : y.ref = x.ref
          · repeat' ((conv => whnf); first | (refine ⟨fun h => ?_, fun h => ?_⟩ <;> try (exfalso; first | omega | exact absurd h (by decide) | exact h rfl | exact absurd (show true = false from h) (by decide) | exact absurd (show false = true from h) (by decide))) | (refine ⟨by omega, fun r hrr => ?_⟩; first | ((have hre : r = encO y := by (first | exact get_row hrr hy | fail)); subst hre)) | refine ⟨⟨by omega, by omega⟩, ?_⟩ | fail | fail)
            all_goals (refine ⟨[], rfl, trivial, congrArg (CV.int .i64) ?_⟩; exact (hT.trans (fe_hit hkl h0 (hE.trans (if_pos (any_yes hik hy (decide_eq_true hyx)))) (by decide))).symm)
          · repeat' ((conv => whnf); first | (refine ⟨fun h => ?_, fun h => ?_⟩ <;> try (exfalso; first | omega | exact absurd h (by decide) | exact h rfl | exact absurd (show true = false from h) (by decide) | exact absurd (show false = true from h) (by decide))) | (refine ⟨by omega, fun r hrr => ?_⟩; first | ((have hre : r = encO y := by (first | exact get_row hrr hy | fail)); subst hre)) | (refine ⟨i + 1, ⟨?_, by (try dsimp only); omega⟩, [], ⟨⟨rfl, rfl⟩, ⟨⟨rfl, rfl⟩, ⟨⟨rfl, rfl⟩, ⟨⟨rfl, rfl⟩, trivial⟩⟩⟩⟩, ⟨⟨rfl, rfl, rfl⟩, trivial⟩, rfl, rfl, rfl⟩; (try dsimp only); exact ⟨by omega, no_step hy hn (decide_eq_false hyx)⟩) | refine ⟨⟨by omega, by omega⟩, ?_⟩ | fail)
        · have hik : i = k := by omega
          subst hik
          repeat' ((conv => whnf); first | (refine ⟨fun h => ?_, fun h => ?_⟩ <;> try (exfalso; first | omega | exact absurd h (by decide) | exact h rfl | exact absurd (show true = false from h) (by decide) | exact absurd (show false = true from h) (by decide))) | (refine ⟨_ + 1, ⟨?_, by (try dsimp only); omega⟩, [], ⟨⟨rfl, rfl⟩, ⟨⟨rfl, rfl⟩, trivial⟩⟩, trivial, rfl, rfl, rfl⟩; (try dsimp only); exact ⟨by omega, fe_go h0 (hE.trans (if_neg (by rw [any_no hn]; decide)))⟩) | refine ⟨⟨by omega, by omega⟩, ?_⟩ | fail)
    · have hE' := hE.trans (if_pos hp)
      rw [hp0] at hp
      repeat' ((conv => whnf); first | (refine ⟨fun h => ?_, fun h => ?_⟩ <;> try (exfalso; first | omega | exact absurd h (by decide) | exact h rfl | exact absurd (show true = false from h) (by decide) | exact absurd (show false = true from h) (by decide))) | (refine ⟨by omega, fun r hrr => ?_⟩; first | ((have hre : r = encO x := by (first | exact get_row hrr hx | fail)); subst hre)) | fail | fail)
      all_goals (refine ⟨[], rfl, trivial, congrArg (CV.int .i64) ?_⟩; exact (hT.trans (fe_hit hkl h0 hE' (by decide))).symm)
  · have hkn : k = l.length := by omega
    subst hkn
    repeat' ((conv => whnf); first | (refine ⟨fun h => ?_, fun h => ?_⟩ <;> try (exfalso; first | omega | exact absurd h (by decide) | exact h rfl | exact absurd (show true = false from h) (by decide) | exact absurd (show false = true from h) (by decide))) | fail | fail)
    all_goals (refine ⟨[], rfl, trivial, congrArg (CV.int .i64) ?_⟩; exact (hT.trans h0).symm)
theorem rlright_h : Holds Tryz.prog 45 rlrightS := holds_of mix Tryz.func45 rlrightLow (fun _ => rfl) rlrightV

/-! skiarea/skiarearef38.index -/
def ridxIr : IFn := ⟨33, [.tmp 6],
 (.seq (.ops [
 ⟨(some 6), .mov, [.const (.int .i64 0)], none⟩] false)
 (.seq (.seq (.ops [
 ⟨(some 7), .mov, [.const (.int .i64 0)], none⟩] false)
 (.block 0
 (.loop
 (.seq (.seq (.ops [
 ⟨(some 8), .mov, [.tmp 7], none⟩,
 ⟨(some 9), .mov, [.tmp 0], none⟩,
 ⟨(some 10), .len, [.tmp 9], none⟩,
 ⟨(some 11), .cmp .lss, [.tmp 8, .tmp 10], none⟩] false)
 (.cond (.tmp 11)
 .skip
 (.exit 0)))
 (.seq (.block 1
 (.seq (.ops [
 ⟨(some 14), .mov, [.tmp 0], none⟩,
 ⟨(some 15), .mov, [.tmp 7], none⟩,
 ⟨(some 16), .idx 8, [.tmp 14, .tmp 15], none⟩,
 ⟨(some 17), .faddr 1, [.tmp 16], none⟩,
 ⟨(some 18), .faddr 0, [.tmp 17], none⟩,
 ⟨(some 19), .load 1 false, [.tmp 18], none⟩,
 ⟨(some 20), .mov, [.tmp 1], none⟩,
 ⟨(some 21), .cmp .eql, [.tmp 19, .tmp 20], none⟩,
 ⟨(some 22), .mov, [.tmp 21], none⟩,
 ⟨(some 23), .mov, [.tmp 0], (some (22, true))⟩,
 ⟨(some 24), .mov, [.tmp 7], (some (22, true))⟩,
 ⟨(some 25), .idx 8, [.tmp 23, .tmp 24], (some (22, true))⟩,
 ⟨(some 26), .faddr 1, [.tmp 25], (some (22, true))⟩,
 ⟨(some 27), .faddr 1, [.tmp 26], (some (22, true))⟩,
 ⟨(some 28), .load 1 false, [.tmp 27], (some (22, true))⟩,
 ⟨(some 29), .mov, [.tmp 2], (some (22, true))⟩,
 ⟨(some 30), .cmp .eql, [.tmp 28, .tmp 29], (some (22, true))⟩,
 ⟨(some 31), .pick, [.tmp 22, .tmp 30, .const (.bool false)], none⟩] false)
 (.cond (.tmp 31)
 (.seq (.ops [
 ⟨(some 32), .mov, [.tmp 7], none⟩,
 ⟨(some 6), .mov, [.tmp 32], none⟩] false)
 .ret)
 .skip)))
 (.ops [
 ⟨(some 12), .mov, [.tmp 7], none⟩,
 ⟨(some 13), .bin .add .i64 false, [.tmp 12, .const (.int .i64 1)], none⟩,
 ⟨(some 7), .mov, [.tmp 13], none⟩] false))))))
 (.seq (.ops [
 ⟨(some 6), .mov, [.const (.int .i64 (-1))], none⟩] false)
 .ret)))⟩
theorem ridxLow : lowF Tryz.prog {} Tryz.f47 = some ridxIr := by kernel_rfl
def ridxS : Spec := spec (List Cnt × Int × Int) (fun p => [L 8 (p.1.map encC), I p.2.1, I p.2.2]) (fun p => p.1.length ≤ 9223372036854775807) (fun p => I (idxC p.1 p.2.1 p.2.2))
theorem ridxV : fnV Tryz.prog ridxIr ridxS := by
  intro ⟨(l : List Cnt), (g : Int), (s : Int)⟩ hx
  replace hx : l.length ≤ 9223372036854775807 := hx
  have hl : (l.map encC).length = l.length := List.length_map ..
  show vc _ _ _ _ ⟨argEnv 0 [L 8 (l.map encC), I g, I s], [], 0⟩
  conv => whnf
  refine ⟨Nat, fun xq => ⟨[(0, L 8 (l.map encC)), (1, I g), (2, I s), (7, I xq)], [], 0⟩, fun xq => xq ≤ l.length ∧ ∀ y ∈ l.take xq, keyB g s y = false, fun xq => l.length - xq, ⟨0, ?_, [], ⟨⟨rfl, rfl⟩, ⟨⟨rfl, rfl⟩, ⟨⟨rfl, rfl⟩, ⟨⟨rfl, rfl⟩, trivial⟩⟩⟩⟩, trivial, rfl, rfl, rfl⟩, ?_⟩
  · (try dsimp only); exact ⟨Nat.zero_le _, by simp⟩
  rintro k hk
  obtain ⟨hk, hn⟩ : k ≤ l.length ∧ ∀ y ∈ l.take k, keyB g s y = false := hk
  (try dsimp only)
  by_cases hkl : k < l.length
  · obtain ⟨x, hx⟩ := getElem_some hkl
    by_cases hb : x.r.gate = g ∧ x.r.seq = s
    · have hf := fidx_at hx hn (decide_eq_true hb)
      repeat' ((conv => whnf); first | (refine ⟨fun h => ?_, fun h => ?_⟩ <;> try (exfalso; first | omega | exact absurd h (by decide) | exact h rfl | exact absurd (show true = false from h) (by decide) | exact absurd (show false = true from h) (by decide))) | (refine ⟨by omega, fun r hrr => ?_⟩; first | ((have hre : r = encC x := by (first | exact get_row hrr hx | fail)); subst hre)) | fail | fail)
      all_goals (refine ⟨[], rfl, trivial, congrArg (CV.int .i64) ?_⟩; exact (show idxC l g s = _ by unfold idxC; rw [hf]).symm)
    · repeat' ((conv => whnf); first | (refine ⟨fun h => ?_, fun h => ?_⟩ <;> try (exfalso; first | omega | exact absurd h (by decide) | exact h rfl | exact absurd (show true = false from h) (by decide) | exact absurd (show false = true from h) (by decide))) | (refine ⟨by omega, fun r hrr => ?_⟩; first | ((have hre : r = encC x := by (first | exact get_row hrr hx | fail)); subst hre)) | (refine ⟨k + 1, ⟨?_, by (try dsimp only); omega⟩, [], ⟨⟨rfl, rfl⟩, ⟨⟨rfl, rfl⟩, ⟨⟨rfl, rfl⟩, ⟨⟨rfl, rfl⟩, trivial⟩⟩⟩⟩, trivial, rfl, rfl, rfl⟩; (try dsimp only); exact ⟨by omega, no_step hx hn (decide_eq_false hb)⟩) | refine ⟨⟨by omega, by omega⟩, ?_⟩ | fail)
  · rw [take_end hkl] at hn
    have hf := fidx_none hn
    repeat' ((conv => whnf); first | (refine ⟨fun h => ?_, fun h => ?_⟩ <;> try (exfalso; first | omega | exact absurd h (by decide) | exact h rfl | exact absurd (show true = false from h) (by decide) | exact absurd (show false = true from h) (by decide))) | fail | fail)
    all_goals (refine ⟨[], rfl, trivial, congrArg (CV.int .i64) ?_⟩; exact (show idxC l g s = _ by unfold idxC; rw [hf]).symm)
theorem ridx_h : Holds Tryz.prog 47 ridxS := holds_of mix Tryz.func47 ridxLow (fun _ => rfl) ridxV

/-! skiarea/period.keyOf -/
def keyOfIr : IFn := ⟨8, [.cell 2 2 true],
 (.seq (.ops [
 ⟨(some 1), .box, [.tmp 0], none⟩,
 ⟨(some 2), .alloc [.int .i64 0, .int .i64 0], [], none⟩] false)
 (.seq (.ops [
 ⟨(some 3), .faddr 0, [.tmp 1], none⟩,
 ⟨(some 4), .load 1 false, [.tmp 3], none⟩,
 ⟨(some 5), .faddr 1, [.tmp 1], none⟩,
 ⟨(some 6), .load 1 false, [.tmp 5], none⟩,
 ⟨(some 7), .build [.int .i64 0, .int .i64 0] [(0, 1), (1, 1)], [.tmp 4, .tmp 6], none⟩,
 ⟨none, .store 2, [.tmp 2, .tmp 7], none⟩] false)
 .ret))⟩
theorem keyOfLow : lowF Tryz.prog {} Tryz.f54 = some keyOfIr := by kernel_rfl
def keyOfS : Spec := spec Ride (fun x => [aD x]) (fun _ => True) (fun x => .agg [I x.gate, I x.seq])
theorem keyOfV : fnV Tryz.prog keyOfIr keyOfS := by
  intro (x : Ride) _
  show vc _ _ _ _ ⟨argEnv 0 [aD x], [], 0⟩
  repeat' ((conv => whnf); first | fail | fail)
  all_goals exact ⟨[], rfl, trivial, rfl, rfl, trivial⟩
theorem keyOf_h : Holds Tryz.prog 54 keyOfS := holds_of mix Tryz.func54 keyOfLow (fun _ => rfl) keyOfV

/-! skiarea/period.counted -/
def cntdIr : IFn := ⟨52, [.tmp 2],
 (.seq (.ops [
 ⟨(some 1), .box, [.tmp 0], none⟩,
 ⟨(some 2), .mov, [.const (.int .i64 0)], none⟩] false)
 (.seq (.ops [
 ⟨(some 6), .mkmap 2 false, [], none⟩,
 ⟨(some 3), .mov, [.tmp 6], none⟩] false)
 (.seq (.seq (.ops [
 ⟨(some 7), .faddr 2, [.tmp 1], none⟩,
 ⟨(some 8), .load 1 false, [.tmp 7], none⟩,
 ⟨(some 9), .len, [.tmp 8], none⟩,
 ⟨(some 10), .mov, [.const (.int .i64 0)], none⟩] false)
 (.block 0
 (.loop
 (.seq (.ops [
 ⟨(some 11), .cmp .lss, [.tmp 10, .tmp 9], none⟩] false)
 (.seq (.cond (.tmp 11)
 .skip
 (.exit 0))
 (.seq (.block 1
 (.seq (.ops [
 ⟨(some 12), .idx 8, [.tmp 8, .tmp 10], none⟩,
 ⟨(some 13), .load 8 true, [.tmp 12], none⟩,
 ⟨(some 5), .alloc [.int .i64 0, .int .i64 0, .int .i64 0, .int .i64 0, .int .i64 0, .int .i64 0, .int .i64 0, .int .i64 0], [], none⟩,
 ⟨none, .store 8, [.tmp 5, .tmp 13], none⟩] false)
 (.seq (.seq (.ops [
 ⟨(some 14), .faddr 0, [.tmp 5], none⟩,
 ⟨(some 15), .load 1 false, [.tmp 14], none⟩,
 ⟨(some 16), .cmp .lss, [.tmp 15, .const (.int .i64 1)], none⟩,
 ⟨(some 17), .mov, [.tmp 16], none⟩,
 ⟨(some 18), .faddr 0, [.tmp 5], (some (17, false))⟩,
 ⟨(some 19), .load 1 false, [.tmp 18], (some (17, false))⟩,
 ⟨(some 20), .faddr 0, [.tmp 1], (some (17, false))⟩,
 ⟨(some 21), .load 1 false, [.tmp 20], (some (17, false))⟩,
 ⟨(some 22), .len, [.tmp 21], (some (17, false))⟩,
 ⟨(some 23), .cmp .gtr, [.tmp 19, .tmp 22], (some (17, false))⟩,
 ⟨(some 24), .pick, [.tmp 17, .const (.bool true), .tmp 23], none⟩] false)
 (.cond (.tmp 24)
 (.seq (.ops [
 ⟨(some 2), .mov, [.const (.int .i64 8)], none⟩] false)
 .ret)
 .skip))
 (.seq (.seq (.ops [
 ⟨(some 25), .faddr 1, [.tmp 5], none⟩,
 ⟨(some 26), .load 7 true, [.tmp 25], none⟩,
 ⟨(some 27), .call 53, [.tmp 26], none⟩,
 ⟨(some 28), .not, [.tmp 27], none⟩] false)
 (.cond (.tmp 28)
 (.seq (.ops [
 ⟨(some 2), .mov, [.const (.int .i64 2)], none⟩] false)
 .ret)
 .skip))
 (.seq (.seq (.ops [
 ⟨(some 29), .faddr 1, [.tmp 5], none⟩,
 ⟨(some 30), .faddr 6, [.tmp 29], none⟩,
 ⟨(some 31), .load 1 false, [.tmp 30], none⟩,
 ⟨(some 32), .faddr 0, [.tmp 1], none⟩,
 ⟨(some 33), .load 1 false, [.tmp 32], none⟩,
 ⟨(some 34), .faddr 0, [.tmp 5], none⟩,
 ⟨(some 35), .load 1 false, [.tmp 34], none⟩,
 ⟨(some 36), .bin .sub .i64 false, [.tmp 35, .const (.int .i64 1)], none⟩,
 ⟨(some 37), .idx 5, [.tmp 33, .tmp 36], none⟩,
 ⟨(some 38), .faddr 1, [.tmp 37], none⟩,
 ⟨(some 39), .faddr 1, [.tmp 38], none⟩,
 ⟨(some 40), .load 1 false, [.tmp 39], none⟩,
 ⟨(some 41), .cmp .geq, [.tmp 31, .tmp 40], none⟩] true)
 (.cond (.tmp 41)
 (.seq (.ops [
 ⟨(some 2), .mov, [.const (.int .i64 11)], none⟩] false)
 .ret)
 .skip))
 (.seq (.seq (.ops [
 ⟨(some 42), .mov, [.tmp 3], none⟩,
 ⟨(some 43), .faddr 1, [.tmp 5], none⟩,
 ⟨(some 44), .load 7 true, [.tmp 43], none⟩,
 ⟨(some 45), .call 54, [.tmp 44], none⟩,
 ⟨(some 46), .lookup [.bool false] 2 false false, [.tmp 42, .tmp 45], none⟩] false)
 (.cond (.tmp 46)
 (.seq (.ops [
 ⟨(some 2), .mov, [.const (.int .i64 7)], none⟩] false)
 .ret)
 .skip))
 (.ops [
 ⟨(some 47), .mov, [.tmp 3], none⟩,
 ⟨(some 48), .faddr 1, [.tmp 5], none⟩,
 ⟨(some 49), .load 7 true, [.tmp 48], none⟩,
 ⟨(some 50), .call 54, [.tmp 49], none⟩,
 ⟨none, .mapset 2 false, [.tmp 47, .tmp 50, .const (.bool true)], none⟩] false)))))))
 (.ops [
 ⟨(some 51), .bin .add .i64 false, [.tmp 10, .const (.int .i64 1)], none⟩,
 ⟨(some 10), .mov, [.tmp 51], none⟩] false)))))))
 (.seq (.ops [
 ⟨(some 2), .mov, [.const (.int .i64 0)], none⟩] false)
 .ret))))⟩
theorem cntdLow : lowF Tryz.prog {} Tryz.f43 = some cntdIr := by kernel_rfl
def cntdS : Spec := spec Bk (fun b => [aB b]) okB (fun b => I (cntR b))
set_option maxHeartbeats 1000000 in
theorem cntdV : fnV Tryz.prog cntdIr cntdS := by
  intro (b : Bk) hb
  obtain ⟨⟨hb1, hb2⟩, hb3, hb4⟩ := hb
  have hlp : (b.ps.map encP).length = b.ps.length := List.length_map ..
  have hlo : (b.po.map encO).length = b.po.length := List.length_map ..
  have hlr : (b.rs.map encC).length = b.rs.length := List.length_map ..
  show vc _ _ _ _ ⟨argEnv 0 [aB b], [], 0⟩
  conv => whnf
  refine ⟨Nat × (List (List Int × List CV)), fun xq => ⟨[(1, .bp 0 0), (3, .mp 1), (8, L 8 (b.rs.map encC)), (9, I (b.rs.map encC).length), (10, I xq.1)], [(0, bB' b), (1, .map 2 false xq.2)], 2⟩, fun xq => (xq.1 ≤ b.rs.length ∧ fe (cntE b) xq.1 = 0) ∧ xq.2 = kvT keyC (b.rs.take xq.1), fun xq => b.rs.length - xq.1, ⟨(0, _), ?_, [], ⟨⟨rfl, rfl⟩, ⟨⟨rfl, rfl⟩, ⟨⟨rfl, rfl⟩, ⟨⟨rfl, rfl⟩, ⟨⟨rfl, rfl⟩, trivial⟩⟩⟩⟩⟩, ⟨⟨rfl, rfl, rfl⟩, ⟨⟨rfl, rfl, rfl⟩, trivial⟩⟩, rfl, rfl, rfl⟩, ?_⟩
  · (try dsimp only); exact ⟨⟨Nat.zero_le _, rfl⟩, rfl⟩
  rintro ⟨k, kv⟩ hk
  obtain ⟨⟨hk, h0⟩, rfl⟩ : (k ≤ b.rs.length ∧ fe (cntE b) k = 0) ∧ kv = kvT keyC (b.rs.take k) := hk
  (try dsimp only)
  by_cases hkl : k < b.rs.length
  · obtain ⟨x, hx⟩ := getElem_some hkl
    have hE : cntE b k = if x.per < 1 ∨ (b.ps.length : Int) < x.per then 8 else if ¬ rideP x.r then 2 else if (at_ b.ps per0 (x.per - 1).toNat).to ≤ x.r.time then 11 else if (b.rs.take k).any (keyB x.r.gate x.r.seq) = true then 7 else 0 := by unfold cntE; rw [at_of hx]
    by_cases c1 : x.per < 1 ∨ (b.ps.length : Int) < x.per
    · repeat' ((conv => whnf); first | (refine ⟨fun h => ?_, fun h => ?_⟩ <;> try (exfalso; first | omega | exact absurd h (by decide) | exact h rfl | exact absurd (show true = false from h) (by decide) | exact absurd (show false = true from h) (by decide))) | (refine ⟨by omega, fun r hrr => ?_⟩; first | ((have hre : r = encC x := by (first | exact get_row hrr hx | fail)); subst hre) | ((have hre : r = encP y := by (first | exact get_rowi (j := (x.per - 1).toNat) hrr (by omega) hy | fail)); subst hre)) | fail | fail)
      all_goals (refine ⟨[], rfl, trivial, congrArg (CV.int .i64) ?_⟩; exact ((fe_hit hkl h0 (hE.trans (if_pos c1)) (by decide))).symm)
    rw [if_neg c1] at hE
    obtain ⟨y, hy⟩ := getElem_some (show (x.per - 1).toNat < b.ps.length by omega)
    rw [at_of hy] at hE
    cases d1 : decide (rideP x.r) with
    | false =>
      repeat' ((conv => whnf); first | (refine ⟨fun h => ?_, fun h => ?_⟩ <;> try (exfalso; first | omega | exact absurd h (by decide) | exact h rfl | exact absurd (show true = false from h) (by decide) | exact absurd (show false = true from h) (by decide))) | (refine ⟨by omega, fun r hrr => ?_⟩; first | ((have hre : r = encC x := by (first | exact get_row hrr hx | fail)); subst hre) | ((have hre : r = encP y := by (first | exact get_rowi (j := (x.per - 1).toNat) hrr (by omega) hy | fail)); subst hre)) | (refine ⟨_, single_h, x.r, trivial, leVs_of_eq rfl, .inl rfl, rfl, ?_⟩; show norm (B (decide (rideP x.r))) _; rw [d1]) | fail | fail)
      all_goals (refine ⟨[], rfl, trivial, congrArg (CV.int .i64) ?_⟩; exact ((fe_hit hkl h0 (hE.trans (if_pos (of_decide_eq_false d1))) (by decide))).symm)
    | true =>
    rw [if_neg (Decidable.not_not.2 (of_decide_eq_true d1))] at hE
    by_cases c3 : y.to ≤ x.r.time
    · repeat' ((conv => whnf); first | (refine ⟨fun h => ?_, fun h => ?_⟩ <;> try (exfalso; first | omega | exact absurd h (by decide) | exact h rfl | exact absurd (show true = false from h) (by decide) | exact absurd (show false = true from h) (by decide))) | (refine ⟨by omega, fun r hrr => ?_⟩; first | ((have hre : r = encC x := by (first | exact get_row hrr hx | fail)); subst hre) | ((have hre : r = encP y := by (first | exact get_rowi (j := (x.per - 1).toNat) hrr (by omega) hy | fail)); subst hre)) | (refine ⟨_, single_h, x.r, trivial, leVs_of_eq rfl, .inl rfl, rfl, ?_⟩; show norm (B (decide (rideP x.r))) _; rw [d1]) | refine ⟨⟨by omega, by omega⟩, ?_⟩ | fail | fail)
      all_goals (refine ⟨[], rfl, trivial, congrArg (CV.int .i64) ?_⟩; exact ((fe_hit hkl h0 (hE.trans (if_pos c3)) (by decide))).symm)
    rw [if_neg c3] at hE
    cases hs : (b.rs.take k).any (keyB x.r.gate x.r.seq) with
    | true =>
      repeat' ((conv => whnf); first | refine lookB_in (keyB_key _ _) hs ?_ | (refine ⟨fun h => ?_, fun h => ?_⟩ <;> try (exfalso; first | omega | exact absurd h (by decide) | exact h rfl | exact absurd (show true = false from h) (by decide) | exact absurd (show false = true from h) (by decide))) | (refine ⟨by omega, fun r hrr => ?_⟩; first | ((have hre : r = encC x := by (first | exact get_row hrr hx | fail)); subst hre) | ((have hre : r = encP y := by (first | exact get_rowi (j := (x.per - 1).toNat) hrr (by omega) hy | fail)); subst hre)) | (refine ⟨_, single_h, x.r, trivial, leVs_of_eq rfl, .inl rfl, rfl, ?_⟩; show norm (B (decide (rideP x.r))) _; rw [d1]) | (refine ⟨_, keyOf_h, x.r, trivial, leVs_of_eq rfl, .inl rfl, rfl, ?_⟩; show norm (.agg [I x.r.gate, I x.r.seq]) _) | refine ⟨⟨by omega, by omega⟩, ?_⟩ | fail | fail)
      all_goals (refine ⟨[], rfl, trivial, congrArg (CV.int .i64) ?_⟩; exact ((fe_hit hkl h0 (hE.trans (if_pos hs)) (by decide))).symm)
    | false =>
      repeat' ((conv => whnf); first | refine lookB_out (keyB_key _ _) hs ?_ | (refine ⟨fun h => ?_, fun h => ?_⟩ <;> try (exfalso; first | omega | exact absurd h (by decide) | exact h rfl | exact absurd (show true = false from h) (by decide) | exact absurd (show false = true from h) (by decide))) | (refine ⟨by omega, fun r hrr => ?_⟩; first | ((have hre : r = encC x := by (first | exact get_row hrr hx | fail)); subst hre) | ((have hre : r = encP y := by (first | exact get_rowi (j := (x.per - 1).toNat) hrr (by omega) hy | fail)); subst hre)) | (refine ⟨_, single_h, x.r, trivial, leVs_of_eq rfl, .inl rfl, rfl, ?_⟩; show norm (B (decide (rideP x.r))) _; rw [d1]) | (refine ⟨_, keyOf_h, x.r, trivial, leVs_of_eq rfl, .inl rfl, rfl, ?_⟩; show norm (.agg [I x.r.gate, I x.r.seq]) _) | (refine ⟨(k + 1, _), ⟨?_, by (try dsimp only); omega⟩, [], ⟨⟨rfl, rfl⟩, ⟨⟨rfl, rfl⟩, ⟨⟨rfl, rfl⟩, ⟨⟨rfl, rfl⟩, ⟨⟨rfl, rfl⟩, trivial⟩⟩⟩⟩⟩, ⟨⟨rfl, rfl, rfl⟩, ⟨⟨rfl, rfl, rfl⟩, trivial⟩⟩, rfl, rfl, rfl⟩; (try dsimp only); exact ⟨⟨by omega, fe_go h0 (hE.trans (if_neg (by rw [hs]; decide)))⟩, (setT (x := x) (keyB_key _ _) hs).trans (congrArg (kvT keyC) (take_snoc _ _ _ hx).symm)⟩) | refine ⟨⟨by omega, by omega⟩, ?_⟩ | fail)
  · have hkn : k = b.rs.length := by omega
    subst hkn
    repeat' ((conv => whnf); first | (refine ⟨fun h => ?_, fun h => ?_⟩ <;> try (exfalso; first | omega | exact absurd h (by decide) | exact h rfl | exact absurd (show true = false from h) (by decide) | exact absurd (show false = true from h) (by decide))) | fail | fail)
    all_goals (refine ⟨[], rfl, trivial, congrArg (CV.int .i64) ?_⟩; exact (h0).symm)
theorem cntd_h : Holds Tryz.prog 43 cntdS := holds_of mix Tryz.func43 cntdLow (fun _ => rfl) cntdV

/-! skiarea/period.Right -/
def RightIr : IFn := ⟨29, [.tmp 2],
 (.seq (.ops [
 ⟨(some 1), .box, [.tmp 0], none⟩,
 ⟨(some 2), .mov, [.const (.int .i64 0)], none⟩] false)
 (.seq (.seq (.ops [
 ⟨(some 5), .faddr 0, [.tmp 1], none⟩,
 ⟨(some 6), .load 1 false, [.tmp 5], none⟩,
 ⟨(some 7), .len, [.tmp 6], none⟩,
 ⟨(some 8), .cmp .gtr, [.tmp 7, .const (.int .i64 64)], none⟩,
 ⟨(some 9), .mov, [.tmp 8], none⟩,
 ⟨(some 10), .faddr 2, [.tmp 1], (some (9, false))⟩,
 ⟨(some 11), .load 1 false, [.tmp 10], (some (9, false))⟩,
 ⟨(some 12), .len, [.tmp 11], (some (9, false))⟩,
 ⟨(some 13), .cmp .gtr, [.tmp 12, .const (.int .i64 2000)], (some (9, false))⟩,
 ⟨(some 14), .pick, [.tmp 9, .const (.bool true), .tmp 13], none⟩] false)
 (.cond (.tmp 14)
 (.seq (.ops [
 ⟨(some 2), .mov, [.const (.int .i64 4)], none⟩] false)
 .ret)
 .skip))
 (.seq (.seq (.ops [
 ⟨(some 15), .faddr 0, [.tmp 1], none⟩,
 ⟨(some 16), .load 1 false, [.tmp 15], none⟩,
 ⟨(some 17), .call 41, [.tmp 16], none⟩,
 ⟨(some 3), .mov, [.tmp 17], none⟩] false)
 (.seq (.ops [
 ⟨(some 18), .mov, [.tmp 3], none⟩,
 ⟨(some 19), .cmp .neq, [.tmp 18, .const (.int .i64 0)], none⟩] false)
 (.cond (.tmp 19)
 (.seq (.ops [
 ⟨(some 20), .mov, [.tmp 3], none⟩,
 ⟨(some 2), .mov, [.tmp 20], none⟩] false)
 .ret)
 .skip)))
 (.seq (.seq (.ops [
 ⟨(some 21), .faddr 1, [.tmp 1], none⟩,
 ⟨(some 22), .load 1 false, [.tmp 21], none⟩,
 ⟨(some 23), .call 42, [.tmp 22], none⟩,
 ⟨(some 4), .mov, [.tmp 23], none⟩] false)
 (.seq (.ops [
 ⟨(some 24), .mov, [.tmp 4], none⟩,
 ⟨(some 25), .cmp .neq, [.tmp 24, .const (.int .i64 0)], none⟩] false)
 (.cond (.tmp 25)
 (.seq (.ops [
 ⟨(some 26), .mov, [.tmp 4], none⟩,
 ⟨(some 2), .mov, [.tmp 26], none⟩] false)
 .ret)
 .skip)))
 (.seq (.ops [
 ⟨(some 27), .load 3 true, [.tmp 1], none⟩,
 ⟨(some 28), .call 43, [.tmp 27], none⟩,
 ⟨(some 2), .mov, [.tmp 28], none⟩] false)
 .ret)))))⟩
theorem RightLow : lowF Tryz.prog {} Tryz.f13 = some RightIr := by kernel_rfl
def RightS : Spec := spec Bk (fun b => [aB b]) okB (fun b => I (rightB b))
theorem RightV : fnV Tryz.prog RightIr RightS := by
  intro (b : Bk) hb
  have hb0 : okB b := hb
  obtain ⟨⟨hb1, hb2⟩, hb3, hb4⟩ := hb
  have hlp : (b.ps.map encP).length = b.ps.length := List.length_map ..
  have hlo : (b.po.map encO).length = b.po.length := List.length_map ..
  have hlr : (b.rs.map encC).length = b.rs.length := List.length_map ..
  show vc _ _ _ _ ⟨argEnv 0 [aB b], [], 0⟩
  have hR : rightB b = if 64 < b.ps.length ∨ 2000 < b.rs.length then 4 else if persE b.ps ≠ 0 then persE b.ps else if ledR b.po ≠ 0 then ledR b.po else cntR b := rfl
  by_cases h1 : 64 < b.ps.length ∨ 2000 < b.rs.length
  · repeat' ((conv => whnf); first | (refine ⟨fun h => ?_, fun h => ?_⟩ <;> try (exfalso; first | omega | exact absurd h (by decide) | exact h rfl | exact absurd (show true = false from h) (by decide) | exact absurd (show false = true from h) (by decide))) | fail | fail)
    all_goals (refine ⟨[], rfl, trivial, congrArg (CV.int .i64) ?_⟩; exact (hR.trans (if_pos h1)).symm)
  rw [if_neg h1] at hR
  by_cases h2 : persE b.ps ≠ 0
  · repeat' ((conv => whnf); first | (refine ⟨fun h => ?_, fun h => ?_⟩ <;> try (exfalso; first | omega | exact absurd h (by decide) | exact h rfl | exact absurd (show true = false from h) (by decide) | exact absurd (show false = true from h) (by decide))) | (refine ⟨_, perF_h, b.ps, ⟨hb1, hb4⟩, leVs_of_eq rfl, .inl rfl, rfl, ?_⟩; show norm (I (persE b.ps)) _) | fail | fail)
    all_goals (refine ⟨[], rfl, trivial, congrArg (CV.int .i64) ?_⟩; exact (hR.trans (if_pos h2)).symm)
  rw [if_neg h2] at hR
  by_cases h3 : ledR b.po ≠ 0
  · repeat' ((conv => whnf); first | (refine ⟨fun h => ?_, fun h => ?_⟩ <;> try (exfalso; first | omega | exact absurd h (by decide) | exact h rfl | exact absurd (show true = false from h) (by decide) | exact absurd (show false = true from h) (by decide))) | (refine ⟨_, perF_h, b.ps, ⟨hb1, hb4⟩, leVs_of_eq rfl, .inl rfl, rfl, ?_⟩; show norm (I (persE b.ps)) _) | (refine ⟨_, lright_h, b.po, hb2, leVs_of_eq rfl, .inl rfl, rfl, ?_⟩; show norm (I (ledR b.po)) _) | fail | fail)
    all_goals (refine ⟨[], rfl, trivial, congrArg (CV.int .i64) ?_⟩; exact (hR.trans (if_pos h3)).symm)
  rw [if_neg h3] at hR
  repeat' ((conv => whnf); first | (refine ⟨fun h => ?_, fun h => ?_⟩ <;> try (exfalso; first | omega | exact absurd h (by decide) | exact h rfl | exact absurd (show true = false from h) (by decide) | exact absurd (show false = true from h) (by decide))) | (refine ⟨_, perF_h, b.ps, ⟨hb1, hb4⟩, leVs_of_eq rfl, .inl rfl, rfl, ?_⟩; show norm (I (persE b.ps)) _) | (refine ⟨_, lright_h, b.po, hb2, leVs_of_eq rfl, .inl rfl, rfl, ?_⟩; show norm (I (ledR b.po)) _) | (refine ⟨_, cntd_h, b, hb0, leVs_of_eq rfl, .inl rfl, rfl, ?_⟩; show norm (I (cntR b)) _) | fail | fail)
  all_goals (refine ⟨[], rfl, trivial, congrArg (CV.int .i64) ?_⟩; exact (hR).symm)
theorem Right_h : Holds Tryz.prog 13 RightS := holds_of mix Tryz.func13 RightLow (fun _ => rfl) RightV

/-! skiarea/skiarearef38.Right -/
def rRightIr : IFn := ⟨85, [.tmp 2],
 (.seq (.ops [
 ⟨(some 1), .box, [.tmp 0], none⟩,
 ⟨(some 2), .mov, [.const (.int .i64 0)], none⟩] false)
 (.seq (.seq (.ops [
 ⟨(some 7), .faddr 0, [.tmp 1], none⟩,
 ⟨(some 8), .load 1 false, [.tmp 7], none⟩,
 ⟨(some 9), .len, [.tmp 8], none⟩,
 ⟨(some 10), .cmp .gtr, [.tmp 9, .const (.int .i64 64)], none⟩,
 ⟨(some 11), .mov, [.tmp 10], none⟩,
 ⟨(some 12), .faddr 2, [.tmp 1], (some (11, false))⟩,
 ⟨(some 13), .load 1 false, [.tmp 12], (some (11, false))⟩,
 ⟨(some 14), .len, [.tmp 13], (some (11, false))⟩,
 ⟨(some 15), .cmp .gtr, [.tmp 14, .const (.int .i64 2000)], (some (11, false))⟩,
 ⟨(some 16), .pick, [.tmp 11, .const (.bool true), .tmp 15], none⟩] false)
 (.cond (.tmp 16)
 (.seq (.ops [
 ⟨(some 2), .mov, [.const (.int .i64 4)], none⟩] false)
 .ret)
 .skip))
 (.seq (.seq (.ops [
 ⟨(some 17), .faddr 0, [.tmp 1], none⟩,
 ⟨(some 18), .load 1 false, [.tmp 17], none⟩,
 ⟨(some 19), .call 44, [.tmp 18], none⟩,
 ⟨(some 3), .mov, [.tmp 19], none⟩] false)
 (.seq (.ops [
 ⟨(some 20), .mov, [.tmp 3], none⟩,
 ⟨(some 21), .cmp .neq, [.tmp 20, .const (.int .i64 0)], none⟩] false)
 (.cond (.tmp 21)
 (.seq (.ops [
 ⟨(some 22), .mov, [.tmp 3], none⟩,
 ⟨(some 2), .mov, [.tmp 22], none⟩] false)
 .ret)
 .skip)))
 (.seq (.seq (.ops [
 ⟨(some 23), .faddr 1, [.tmp 1], none⟩,
 ⟨(some 24), .load 1 false, [.tmp 23], none⟩,
 ⟨(some 25), .call 45, [.tmp 24], none⟩,
 ⟨(some 4), .mov, [.tmp 25], none⟩] false)
 (.seq (.ops [
 ⟨(some 26), .mov, [.tmp 4], none⟩,
 ⟨(some 27), .cmp .neq, [.tmp 26, .const (.int .i64 0)], none⟩] false)
 (.cond (.tmp 27)
 (.seq (.ops [
 ⟨(some 28), .mov, [.tmp 4], none⟩,
 ⟨(some 2), .mov, [.tmp 28], none⟩] false)
 .ret)
 .skip)))
 (.seq (.seq (.ops [
 ⟨(some 5), .mov, [.const (.int .i64 0)], none⟩] false)
 (.block 0
 (.loop
 (.seq (.seq (.ops [
 ⟨(some 29), .mov, [.tmp 5], none⟩,
 ⟨(some 30), .faddr 2, [.tmp 1], none⟩,
 ⟨(some 31), .load 1 false, [.tmp 30], none⟩,
 ⟨(some 32), .len, [.tmp 31], none⟩,
 ⟨(some 33), .cmp .lss, [.tmp 29, .tmp 32], none⟩] false)
 (.cond (.tmp 33)
 .skip
 (.exit 0)))
 (.seq (.block 1
 (.seq (.ops [
 ⟨(some 36), .faddr 2, [.tmp 1], none⟩,
 ⟨(some 37), .load 1 false, [.tmp 36], none⟩,
 ⟨(some 38), .mov, [.tmp 5], none⟩,
 ⟨(some 39), .idx 8, [.tmp 37, .tmp 38], none⟩,
 ⟨(some 40), .load 8 true, [.tmp 39], none⟩,
 ⟨(some 6), .alloc [.int .i64 0, .int .i64 0, .int .i64 0, .int .i64 0, .int .i64 0, .int .i64 0, .int .i64 0, .int .i64 0], [], none⟩,
 ⟨none, .store 8, [.tmp 6, .tmp 40], none⟩] false)
 (.block 2
 (.seq (.ops [
 ⟨(some 42), .faddr 0, [.tmp 6], none⟩,
 ⟨(some 43), .load 1 false, [.tmp 42], none⟩,
 ⟨(some 44), .cmp .lss, [.tmp 43, .const (.int .i64 1)], none⟩,
 ⟨(some 45), .mov, [.tmp 44], none⟩,
 ⟨(some 46), .faddr 0, [.tmp 6], (some (45, false))⟩,
 ⟨(some 47), .load 1 false, [.tmp 46], (some (45, false))⟩,
 ⟨(some 48), .faddr 0, [.tmp 1], (some (45, false))⟩,
 ⟨(some 49), .load 1 false, [.tmp 48], (some (45, false))⟩,
 ⟨(some 50), .len, [.tmp 49], (some (45, false))⟩,
 ⟨(some 51), .cmp .gtr, [.tmp 47, .tmp 50], (some (45, false))⟩,
 ⟨(some 52), .pick, [.tmp 45, .const (.bool true), .tmp 51], none⟩,
 ⟨(some 41), .mov, [.tmp 52], none⟩] false)
 (.cond (.tmp 41)
 (.seq (.ops [
 ⟨(some 2), .mov, [.const (.int .i64 8)], none⟩] false)
 .ret)
 (.seq (.ops [
 ⟨(some 54), .faddr 1, [.tmp 6], none⟩,
 ⟨(some 55), .load 7 true, [.tmp 54], none⟩,
 ⟨(some 56), .call 46, [.tmp 55], none⟩,
 ⟨(some 57), .not, [.tmp 56], none⟩,
 ⟨(some 53), .mov, [.tmp 57], none⟩] false)
 (.cond (.tmp 53)
 (.seq (.ops [
 ⟨(some 2), .mov, [.const (.int .i64 2)], none⟩] false)
 .ret)
 (.seq (.ops [
 ⟨(some 59), .faddr 1, [.tmp 6], none⟩,
 ⟨(some 60), .faddr 6, [.tmp 59], none⟩,
 ⟨(some 61), .load 1 false, [.tmp 60], none⟩,
 ⟨(some 62), .faddr 0, [.tmp 1], none⟩,
 ⟨(some 63), .load 1 false, [.tmp 62], none⟩,
 ⟨(some 64), .faddr 0, [.tmp 6], none⟩,
 ⟨(some 65), .load 1 false, [.tmp 64], none⟩,
 ⟨(some 66), .bin .sub .i64 false, [.tmp 65, .const (.int .i64 1)], none⟩,
 ⟨(some 67), .idx 5, [.tmp 63, .tmp 66], none⟩,
 ⟨(some 68), .faddr 1, [.tmp 67], none⟩,
 ⟨(some 69), .faddr 1, [.tmp 68], none⟩,
 ⟨(some 70), .load 1 false, [.tmp 69], none⟩,
 ⟨(some 71), .cmp .geq, [.tmp 61, .tmp 70], none⟩,
 ⟨(some 58), .mov, [.tmp 71], none⟩] true)
 (.cond (.tmp 58)
 (.seq (.ops [
 ⟨(some 2), .mov, [.const (.int .i64 11)], none⟩] false)
 .ret)
 (.seq (.ops [
 ⟨(some 73), .faddr 2, [.tmp 1], none⟩,
 ⟨(some 74), .load 1 false, [.tmp 73], none⟩,
 ⟨(some 75), .mov, [.tmp 5], none⟩,
 ⟨(some 76), .slice 8 false true, [.tmp 74, .tmp 75], none⟩,
 ⟨(some 77), .faddr 1, [.tmp 6], none⟩,
 ⟨(some 78), .faddr 0, [.tmp 77], none⟩,
 ⟨(some 79), .load 1 false, [.tmp 78], none⟩,
 ⟨(some 80), .faddr 1, [.tmp 6], none⟩,
 ⟨(some 81), .faddr 1, [.tmp 80], none⟩,
 ⟨(some 82), .load 1 false, [.tmp 81], none⟩,
 ⟨(some 83), .call 47, [.tmp 76, .tmp 79, .tmp 82], none⟩,
 ⟨(some 84), .cmp .geq, [.tmp 83, .const (.int .i64 0)], none⟩,
 ⟨(some 72), .mov, [.tmp 84], none⟩] true)
 (.cond (.tmp 72)
 (.seq (.ops [
 ⟨(some 2), .mov, [.const (.int .i64 7)], none⟩] false)
 .ret)
 .skip)))))))))))
 (.ops [
 ⟨(some 34), .mov, [.tmp 5], none⟩,
 ⟨(some 35), .bin .add .i64 false, [.tmp 34, .const (.int .i64 1)], none⟩,
 ⟨(some 5), .mov, [.tmp 35], none⟩] false))))))
 (.seq (.ops [
 ⟨(some 2), .mov, [.const (.int .i64 0)], none⟩] false)
 .ret))))))⟩
theorem rRightLow : lowF Tryz.prog {} Tryz.f14 = some rRightIr := by kernel_rfl
def rRightS : Spec := spec Bk (fun b => [aB b]) okB (fun b => I (rightB b))
set_option maxHeartbeats 1000000 in
theorem rRightV : fnV Tryz.prog rRightIr rRightS := by
  intro (b : Bk) hb
  have hb0 : okB b := hb
  obtain ⟨⟨hb1, hb2⟩, hb3, hb4⟩ := hb
  have hlp : (b.ps.map encP).length = b.ps.length := List.length_map ..
  have hlo : (b.po.map encO).length = b.po.length := List.length_map ..
  have hlr : (b.rs.map encC).length = b.rs.length := List.length_map ..
  show vc _ _ _ _ ⟨argEnv 0 [aB b], [], 0⟩
  have hR : rightB b = if 64 < b.ps.length ∨ 2000 < b.rs.length then 4 else if persE b.ps ≠ 0 then persE b.ps else if ledR b.po ≠ 0 then ledR b.po else cntR b := rfl
  by_cases h1 : 64 < b.ps.length ∨ 2000 < b.rs.length
  · repeat' ((conv => whnf); first | (refine ⟨fun h => ?_, fun h => ?_⟩ <;> try (exfalso; first | omega | exact absurd h (by decide) | exact h rfl | exact absurd (show true = false from h) (by decide) | exact absurd (show false = true from h) (by decide))) | fail | fail)
    all_goals (refine ⟨[], rfl, trivial, congrArg (CV.int .i64) ?_⟩; exact (hR.trans (if_pos h1)).symm)
  rw [if_neg h1] at hR
  by_cases h2 : persE b.ps ≠ 0
  · repeat' ((conv => whnf); first | (refine ⟨fun h => ?_, fun h => ?_⟩ <;> try (exfalso; first | omega | exact absurd h (by decide) | exact h rfl | exact absurd (show true = false from h) (by decide) | exact absurd (show false = true from h) (by decide))) | (refine ⟨_, rperF_h, b.ps, ⟨hb1, hb4⟩, leVs_of_eq rfl, .inl rfl, rfl, ?_⟩; show norm (I (persE b.ps)) _) | fail | fail)
    all_goals (refine ⟨[], rfl, trivial, congrArg (CV.int .i64) ?_⟩; exact (hR.trans (if_pos h2)).symm)
  rw [if_neg h2] at hR
  by_cases h3 : ledR b.po ≠ 0
  · repeat' ((conv => whnf); first | (refine ⟨fun h => ?_, fun h => ?_⟩ <;> try (exfalso; first | omega | exact absurd h (by decide) | exact h rfl | exact absurd (show true = false from h) (by decide) | exact absurd (show false = true from h) (by decide))) | (refine ⟨_, rperF_h, b.ps, ⟨hb1, hb4⟩, leVs_of_eq rfl, .inl rfl, rfl, ?_⟩; show norm (I (persE b.ps)) _) | (refine ⟨_, rlright_h, b.po, hb2, leVs_of_eq rfl, .inl rfl, rfl, ?_⟩; show norm (I (ledR b.po)) _) | fail | fail)
    all_goals (refine ⟨[], rfl, trivial, congrArg (CV.int .i64) ?_⟩; exact (hR.trans (if_pos h3)).symm)
  rw [if_neg h3] at hR
  repeat' ((conv => whnf); first | (refine ⟨fun h => ?_, fun h => ?_⟩ <;> try (exfalso; first | omega | exact absurd h (by decide) | exact h rfl | exact absurd (show true = false from h) (by decide) | exact absurd (show false = true from h) (by decide))) | (refine ⟨_, rperF_h, b.ps, ⟨hb1, hb4⟩, leVs_of_eq rfl, .inl rfl, rfl, ?_⟩; show norm (I (persE b.ps)) _) | (refine ⟨_, rlright_h, b.po, hb2, leVs_of_eq rfl, .inl rfl, rfl, ?_⟩; show norm (I (ledR b.po)) _) | fail | fail)
  refine ⟨Nat, fun xq => ⟨[(1, .bp 0 0), (5, I xq)], [(0, bB' b)], 1⟩, fun xq => xq ≤ b.rs.length ∧ fe (cntE b) xq = 0, fun xq => b.rs.length - xq, ⟨0, ?_, [], ⟨⟨rfl, rfl⟩, ⟨⟨rfl, rfl⟩, trivial⟩⟩, ⟨⟨rfl, rfl, rfl⟩, trivial⟩, rfl, rfl, rfl⟩, ?_⟩
  · (try dsimp only); exact ⟨Nat.zero_le _, rfl⟩
  rintro k hk
  obtain ⟨hk, h0⟩ : k ≤ b.rs.length ∧ fe (cntE b) k = 0 := hk
  (try dsimp only)
  by_cases hkl : k < b.rs.length
  · obtain ⟨x, hx⟩ := getElem_some hkl
    have hE : cntE b k = if x.per < 1 ∨ (b.ps.length : Int) < x.per then 8 else if ¬ rideP x.r then 2 else if (at_ b.ps per0 (x.per - 1).toNat).to ≤ x.r.time then 11 else if (b.rs.take k).any (keyB x.r.gate x.r.seq) = true then 7 else 0 := by unfold cntE; rw [at_of hx]
    by_cases c1 : x.per < 1 ∨ (b.ps.length : Int) < x.per
    · repeat' ((conv => whnf); first | (refine ⟨fun h => ?_, fun h => ?_⟩ <;> try (exfalso; first | omega | exact absurd h (by decide) | exact h rfl | exact absurd (show true = false from h) (by decide) | exact absurd (show false = true from h) (by decide))) | (refine ⟨by omega, fun r hrr => ?_⟩; first | ((have hre : r = encC x := by (first | exact get_row hrr hx | fail)); subst hre) | ((have hre : r = encP y := by (first | exact get_rowi (j := (x.per - 1).toNat) hrr (by omega) hy | fail)); subst hre)) | fail | fail)
      all_goals (refine ⟨[], rfl, trivial, congrArg (CV.int .i64) ?_⟩; exact (hR.trans (fe_hit hkl h0 (hE.trans (if_pos c1)) (by decide))).symm)
    rw [if_neg c1] at hE
    obtain ⟨y, hy⟩ := getElem_some (show (x.per - 1).toNat < b.ps.length by omega)
    rw [at_of hy] at hE
    cases d1 : decide (rideP x.r) with
    | false =>
      repeat' ((conv => whnf); first | (refine ⟨fun h => ?_, fun h => ?_⟩ <;> try (exfalso; first | omega | exact absurd h (by decide) | exact h rfl | exact absurd (show true = false from h) (by decide) | exact absurd (show false = true from h) (by decide))) | (refine ⟨by omega, fun r hrr => ?_⟩; first | ((have hre : r = encC x := by (first | exact get_row hrr hx | fail)); subst hre) | ((have hre : r = encP y := by (first | exact get_rowi (j := (x.per - 1).toNat) hrr (by omega) hy | fail)); subst hre)) | (refine ⟨_, alone_h, x.r, trivial, leVs_of_eq rfl, .inl rfl, rfl, ?_⟩; show norm (B (decide (rideP x.r))) _; rw [d1]) | fail | fail)
      all_goals (refine ⟨[], rfl, trivial, congrArg (CV.int .i64) ?_⟩; exact (hR.trans (fe_hit hkl h0 (hE.trans (if_pos (of_decide_eq_false d1))) (by decide))).symm)
    | true =>
    rw [if_neg (Decidable.not_not.2 (of_decide_eq_true d1))] at hE
    by_cases c3 : y.to ≤ x.r.time
    · repeat' ((conv => whnf); first | (refine ⟨fun h => ?_, fun h => ?_⟩ <;> try (exfalso; first | omega | exact absurd h (by decide) | exact h rfl | exact absurd (show true = false from h) (by decide) | exact absurd (show false = true from h) (by decide))) | (refine ⟨by omega, fun r hrr => ?_⟩; first | ((have hre : r = encC x := by (first | exact get_row hrr hx | fail)); subst hre) | ((have hre : r = encP y := by (first | exact get_rowi (j := (x.per - 1).toNat) hrr (by omega) hy | fail)); subst hre)) | (refine ⟨_, alone_h, x.r, trivial, leVs_of_eq rfl, .inl rfl, rfl, ?_⟩; show norm (B (decide (rideP x.r))) _; rw [d1]) | refine ⟨⟨by omega, by omega⟩, ?_⟩ | fail | fail)
      all_goals (refine ⟨[], rfl, trivial, congrArg (CV.int .i64) ?_⟩; exact (hR.trans (fe_hit hkl h0 (hE.trans (if_pos c3)) (by decide))).symm)
    rw [if_neg c3] at hE
    have hia := idxC_any (l := b.rs.take k) (g := x.r.gate) (s := x.r.seq)
    cases hs : (b.rs.take k).any (keyB x.r.gate x.r.seq) with
    | true =>
      rw [hs] at hia
      replace hia := of_decide_eq_true hia.symm
      repeat' ((conv => whnf); first | (refine ⟨fun h => ?_, fun h => ?_⟩ <;> try (exfalso; first | omega | exact absurd h (by decide) | exact h rfl | exact absurd (show true = false from h) (by decide) | exact absurd (show false = true from h) (by decide))) | (refine ⟨by omega, fun r hrr => ?_⟩; first | ((have hre : r = encC x := by (first | exact get_row hrr hx | fail)); subst hre) | ((have hre : r = encP y := by (first | exact get_rowi (j := (x.per - 1).toNat) hrr (by omega) hy | fail)); subst hre)) | (refine ⟨_, alone_h, x.r, trivial, leVs_of_eq rfl, .inl rfl, rfl, ?_⟩; show norm (B (decide (rideP x.r))) _; rw [d1]) | (refine ⟨_, ridx_h, (b.rs.take k, x.r.gate, x.r.seq), (by show (b.rs.take k).length ≤ _; rw [List.length_take]; omega), ⟨(by show leV (L 8 _) (L 8 _); rw [Int.toNat_natCast, show (0 : Int).toNat = 0 from rfl, List.drop_zero, ← List.map_take]; exact leV_refl _), leV_refl _, leV_refl _, trivial⟩, .inl rfl, rfl, ?_⟩; show norm (I (idxC (b.rs.take k) x.r.gate x.r.seq)) _) | (refine ⟨⟨by decide, by omega, by omega⟩, ?_⟩) | refine ⟨⟨by omega, by omega⟩, ?_⟩ | fail | fail)
      all_goals (refine ⟨[], rfl, trivial, congrArg (CV.int .i64) ?_⟩; exact (hR.trans (fe_hit hkl h0 (hE.trans (if_pos hs)) (by decide))).symm)
    | false =>
      rw [hs] at hia
      replace hia := of_decide_eq_false hia.symm
      repeat' ((conv => whnf); first | (refine ⟨fun h => ?_, fun h => ?_⟩ <;> try (exfalso; first | omega | exact absurd h (by decide) | exact h rfl | exact absurd (show true = false from h) (by decide) | exact absurd (show false = true from h) (by decide))) | (refine ⟨by omega, fun r hrr => ?_⟩; first | ((have hre : r = encC x := by (first | exact get_row hrr hx | fail)); subst hre) | ((have hre : r = encP y := by (first | exact get_rowi (j := (x.per - 1).toNat) hrr (by omega) hy | fail)); subst hre)) | (refine ⟨_, alone_h, x.r, trivial, leVs_of_eq rfl, .inl rfl, rfl, ?_⟩; show norm (B (decide (rideP x.r))) _; rw [d1]) | (refine ⟨_, ridx_h, (b.rs.take k, x.r.gate, x.r.seq), (by show (b.rs.take k).length ≤ _; rw [List.length_take]; omega), ⟨(by show leV (L 8 _) (L 8 _); rw [Int.toNat_natCast, show (0 : Int).toNat = 0 from rfl, List.drop_zero, ← List.map_take]; exact leV_refl _), leV_refl _, leV_refl _, trivial⟩, .inl rfl, rfl, ?_⟩; show norm (I (idxC (b.rs.take k) x.r.gate x.r.seq)) _) | (refine ⟨⟨by decide, by omega, by omega⟩, ?_⟩) | (refine ⟨k + 1, ⟨?_, by (try dsimp only); omega⟩, [], ⟨⟨rfl, rfl⟩, ⟨⟨rfl, rfl⟩, trivial⟩⟩, ⟨⟨rfl, rfl, rfl⟩, trivial⟩, rfl, rfl, rfl⟩; (try dsimp only); exact ⟨by omega, fe_go h0 (hE.trans (if_neg (by rw [hs]; decide)))⟩) | refine ⟨⟨by omega, by omega⟩, ?_⟩ | fail)
  · have hkn : k = b.rs.length := by omega
    subst hkn
    repeat' ((conv => whnf); first | (refine ⟨fun h => ?_, fun h => ?_⟩ <;> try (exfalso; first | omega | exact absurd h (by decide) | exact h rfl | exact absurd (show true = false from h) (by decide) | exact absurd (show false = true from h) (by decide))) | fail | fail)
    all_goals (refine ⟨[], rfl, trivial, congrArg (CV.int .i64) ?_⟩; exact (hR.trans h0).symm)
theorem rRight_h : Holds Tryz.prog 14 rRightS := holds_of mix Tryz.func14 rRightLow (fun _ => rfl) rRightV

end Go.Proofs.YtpkhannkbafimaaGreat
