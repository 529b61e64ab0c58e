/- A part of the proof. -/
import Derived.Test.YtjpdaapjnpdiiaaGreatQR3
namespace Go.Proofs.YtjpdaapjnpdiiaaGreat.P
open Go.RowKit
def isAccIr : IFn := ⟨9, [.tmp 2], (zq [ zl 2 .mov [zf]] (zq [ zm 3 0, zl 4 (.cmp .geq) [.tmp 3, zi 0], zm 5 4, zw 6 0 5 true, zh 7 (.cmp .leq) [.tmp 6, zi 9999] 5 true, zl 8 .pick [.tmp 5, .tmp 7, zf], zm 2 8] .ret))⟩
theorem isAccLow : lowF Tryz.prog {} Tryz.f93 = some isAccIr := by kernel_rfl
def isAccS : Spec := spec Int (fun n => [I n]) (fun _ => True) (fun n => B (decide (accnP n)))
theorem isAccV : fnV Tryz.prog isAccIr isAccS := by
 intro (n : Int) _
 show vc _ _ _ _ ⟨argEnv 0 [I n], [], 0⟩
 repeat' ((conv => whnf); first | (refine ⟨fun h => ?_, fun h => ?_⟩ <;> try (exfalso; first | omega | (revert h; decide) | exact h rfl | cases (show true = false from h) | cases (show false = true from h))) | refine ⟨[], rfl, trivial, congrArg CV.bool ?_⟩ | fail)
 all_goals first | exact (decide_eq_true (show 0 ≤ n ∧ n ≤ 9999 by omega)).symm | exact (decide_eq_false (show ¬ (0 ≤ n ∧ n ≤ 9999) by omega)).symm
theorem isAcc_h : Holds Tryz.prog 93 isAccS := holds_of mix Tryz.func93 isAccLow (fun _ => rfl) isAccV
def lrightIr : IFn := ⟨59, [.tmp 2], (zq [ zl 2 .mov [zi 0]] (.seq (zq [ zm 6 0, zo 7 .len [6], zl 8 (.cmp .gtr) [.tmp 7, zi 2000]] (.cond (.tmp 8) (zq [ zl 2 .mov [zi 4]] .ret) .skip)) (zq [ zo 9 (.mkmap 0 false) [], zm 3 9] (.seq (zq [ zm 10 0, zo 11 .len [10], zl 12 .mov [zi 0]] (.block 0 (.loop (zq [ zo 13 (.cmp .lss) [12, 11]] (.seq (.cond (.tmp 13) .skip (.exit 0)) (.seq (.block 1 (zq [ zo 14 (.idx 4) [10, 12], zo 15 (.load 4 true) [14], zo 5 (.alloc [.int .i64 0, .int .i64 0, .int .i64 0, .int .i64 0]) [], zn (.store 4) [5, 15]] (.seq (zq [ zo 16 (.faddr 0) [5], zo 17 (.load 1 false) [16], zl 18 (.cmp .lss)
 [.tmp 17, zi 1], zm 19 18, zg 20 (.faddr 0) [5] 19 false, zg 21 (.load 1 false) [20] 19 false, zh 22 (.cmp .gtr) [.tmp 21, zi 1000000000] 19 false, zl 23 .pick [.tmp 19, zv, .tmp 22], zm 24 23, zg 25 (.faddr 1) [5] 24 false, zg 26 (.load 1 false) [25] 24 false, zg 27 (.call 93) [26] 24 false, zg 28 .not [27] 24 false, zl 29 .pick [.tmp 24, zv, .tmp 28], zm 30 29, zg 31 (.faddr 2) [5] 30 false, zg 32 (.load 1 false) [31] 30 false, zg 33 (.call 93) [32] 30 false, zg 34 .not [33] 30 false, zl 35 .pick [.tmp 30, zv, .tmp 34], zm 36 35, zg 37 (.faddr 3) [5] 36 false, zg 38 (.load 1 false) [37] 36
 false, zh 39 (.cmp .lss) [.tmp 38, zi 1] 36 false, zl 40 .pick [.tmp 36, zv, .tmp 39], zm 41 40, zg 42 (.faddr 3) [5] 41 false, zg 43 (.load 1 false) [42] 41 false, zh 44 (.cmp .gtr) [.tmp 43, zi 1099511627776] 41 false, zl 45 .pick [.tmp 41, zv, .tmp 44]] (.cond (.tmp 45) (zq [ zl 2 .mov [zi 2]] .ret) .skip)) (.seq (zq [ zo 46 (.faddr 1) [5], zo 47 (.load 1 false) [46], zo 48 (.faddr 2) [5], zo 49 (.load 1 false) [48], zo 50 (.cmp .eql) [47, 49]] (.cond (.tmp 50) (zq [ zl 2 .mov [zi 1]] .ret) .skip)) (.seq (zq [ zm 51 3, zo 52 (.faddr 0) [5], zo 53 (.load 1 false) [52], zo 54 (.lookup [.bool
 false] 0 false false) [51, 53]] (.cond (.tmp 54) (zq [ zl 2 .mov [zi 7]] .ret) .skip)) (zp [ zm 55 3, zo 56 (.faddr 0) [5], zo 57 (.load 1 false) [56], ⟨none, .mapset 0 false, [.tmp 55, .tmp 57, zv], none⟩])))))) (zp [ zl 58 (.bin .add .i64 false) [.tmp 12, zi 1], zm 12 58]))))))) (zq [ zl 2 .mov [zi 0]] .ret)))))⟩
theorem lrightLow : lowF Tryz.prog {} Tryz.f70 = some lrightIr := by kernel_rfl
def lrightS : Spec := spec (List Pst) (fun l => [L 4 (l.map encO)]) (fun l => l.length ≤ 9223372036854775807) (fun l => I (ledR l))
theorem lrightV : fnV Tryz.prog lrightIr lrightS := by
 intro (l : List Pst) hx
 replace hx : l.length ≤ 9223372036854775807 := hx
 have hl : (l.map encO).length = l.length := List.length_map ..
 show vc _ _ _ _ ⟨argEnv 0 [L 4 (l.map encO)], [], 0⟩
 by_cases hb : 2000 < l.length
 · repeat' ((conv => whnf); first | (refine ⟨fun h => ?_, fun h => ?_⟩ <;> try (exfalso; first | omega | (revert h; decide) | exact h rfl | cases (show true = false from h) | cases (show false = true from h))) | fail)
   all_goals (refine ⟨[], rfl, trivial, congrArg (CV.int .i64) ?_⟩; exact ((show ledR l = 4 from if_pos hb)).symm)
 have hT : ledR l = fe (ledE l) l.length := if_neg hb
 repeat' ((conv => whnf); first | (refine ⟨fun h => ?_, fun h => ?_⟩ <;> try (exfalso; first | omega | (revert h; decide) | exact h rfl | cases (show true = false from h) | cases (show false = true from h))) | fail)
 refine ⟨Nat × (List (List Int × List CV)), fun xq => ⟨[(3, .mp 0), (10, L 4 (l.map encO)), (11, I (l.map encO).length), (12, I xq.1)], [(0, .map 0 false xq.2)], 1⟩, fun xq => (xq.1 ≤ l.length ∧ fe (ledE l) xq.1 = 0) ∧ xq.2 = kvT keyO (l.take xq.1), fun xq => l.length - xq.1, ⟨(0, _), ?_, [], ⟨⟨rfl, rfl⟩, ⟨rfl, rfl⟩, ⟨rfl, rfl⟩, ⟨rfl, rfl⟩, trivial⟩, ⟨⟨rfl, rfl, rfl⟩, trivial⟩, rfl, rfl, rfl⟩, ?_⟩
 · (try dsimp only); exact ⟨⟨Nat.zero_le _, rfl⟩, rfl⟩
 rintro ⟨k, kv⟩ hk
 obtain ⟨⟨hk, h0⟩, rfl⟩ : (k ≤ l.length ∧ fe (ledE l) k = 0) ∧ kv = kvT keyO (l.take k) := hk
 (try dsimp only)
 by_cases hkl : k < l.length
 · obtain ⟨x, hx⟩ := getElem_some hkl
   have hE : ledE l k = if ¬ ledP x then 2 else if x.fr = x.to then 1 else if (l.take k).any (refB x.ref) = true then 7 else 0 := by unfold ledE; rw [at_of hx]
   have hp0 : ledP x = ((1 ≤ x.ref ∧ x.ref ≤ 1000000000) ∧ (0 ≤ x.fr ∧ x.fr ≤ 9999) ∧ (0 ≤ x.to ∧ x.to ≤ 9999) ∧ 1 ≤ x.am ∧ x.am ≤ 1099511627776) := rfl
   cases d1 : decide (accnP x.fr) with
   | false =>
     repeat' ((conv => whnf); first | (refine ⟨fun h => ?_, fun h => ?_⟩ <;> try (exfalso; first | omega | (revert h; decide) | exact h rfl | cases (show true = false from h) | cases (show false = true from h))) | (refine ⟨by omega, fun r hrr => ?_⟩; first | ((have hre : r = encO x := by (first | exact get_row hrr hx | fail)); subst hre)) | (refine ⟨_, isAcc_h, x.fr, trivial, leVs_of_eq rfl, .inl rfl, rfl, ?_⟩; show norm (B (decide (accnP x.fr))) _; rw [d1]) | fail)
     all_goals (refine ⟨[], rfl, trivial, congrArg (CV.int .i64) ?_⟩; exact (hT.trans (fe_hit hkl h0 (hE.trans (if_pos fun h => of_decide_eq_false d1 h.2.1)) (by decide))).symm)
   | true =>
   cases d2 : decide (accnP x.to) with
   | false =>
     repeat' ((conv => whnf); first | (refine ⟨fun h => ?_, fun h => ?_⟩ <;> try (exfalso; first | omega | (revert h; decide) | exact h rfl | cases (show true = false from h) | cases (show false = true from h))) | (refine ⟨by omega, fun r hrr => ?_⟩; first | ((have hre : r = encO x := by (first | exact get_row hrr hx | fail)); subst hre)) | (refine ⟨_, isAcc_h, x.fr, trivial, leVs_of_eq rfl, .inl rfl, rfl, ?_⟩; show norm (B (decide (accnP x.fr))) _; rw [d1]) | (refine ⟨_, isAcc_h, x.to, trivial, leVs_of_eq rfl, .inl rfl, rfl, ?_⟩; show norm (B (decide (accnP x.to))) _; rw [d2]) | fail)
     all_goals (refine ⟨[], rfl, trivial, congrArg (CV.int .i64) ?_⟩; exact (hT.trans (fe_hit hkl h0 (hE.trans (if_pos fun h => of_decide_eq_false d2 h.2.2.1)) (by decide))).symm)
   | true =>
   have q1 : 0 ≤ x.fr ∧ x.fr ≤ 9999 := of_decide_eq_true d1
   have q2 : 0 ≤ x.to ∧ x.to ≤ 9999 := of_decide_eq_true d2
   by_cases hp : ledP x
   · rw [if_neg (Decidable.not_not.2 hp)] at hE
     rw [hp0] at hp
     by_cases hw : x.fr = x.to
     · repeat' ((conv => whnf); first | (refine ⟨fun h => ?_, fun h => ?_⟩ <;> try (exfalso; first | omega | (revert h; decide) | exact h rfl | cases (show true = false from h) | cases (show false = true from h))) | (refine ⟨by omega, fun r hrr => ?_⟩; first | ((have hre : r = encO x := by (first | exact get_row hrr hx | fail)); subst hre)) | (refine ⟨_, isAcc_h, x.fr, trivial, leVs_of_eq rfl, .inl rfl, rfl, ?_⟩; show norm (B (decide (accnP x.fr))) _; rw [d1]) | (refine ⟨_, isAcc_h, x.to, trivial, leVs_of_eq rfl, .inl rfl, rfl, ?_⟩; show norm (B (decide (accnP x.to))) _; rw [d2]) | fail)
       all_goals (refine ⟨[], rfl, trivial, congrArg (CV.int .i64) ?_⟩; exact (hT.trans (fe_hit hkl h0 (hE.trans (if_pos hw)) (by decide))).symm)
     · rw [if_neg hw] at hE
       cases hs : (l.take k).any (refB x.ref) with
       | true =>
         repeat' ((conv => whnf); first | refine lookB_in (refB_key _) hs ?_ | (refine ⟨fun h => ?_, fun h => ?_⟩ <;> try (exfalso; first | omega | (revert h; decide) | exact h rfl | cases (show true = false from h) | cases (show false = true from h))) | (refine ⟨by omega, fun r hrr => ?_⟩; first | ((have hre : r = encO x := by (first | exact get_row hrr hx | fail)); subst hre)) | (refine ⟨_, isAcc_h, x.fr, trivial, leVs_of_eq rfl, .inl rfl, rfl, ?_⟩; show norm (B (decide (accnP x.fr))) _; rw [d1]) | (refine ⟨_, isAcc_h, x.to, trivial, leVs_of_eq rfl, .inl rfl, rfl, ?_⟩; show norm (B (decide (accnP x.to))) _; rw [d2]) | fail)
         all_goals (refine ⟨[], rfl, trivial, congrArg (CV.int .i64) ?_⟩; exact (hT.trans (fe_hit hkl h0 (hE.trans (if_pos hs)) (by decide))).symm)
       | false =>
         repeat' ((conv => whnf); first | refine lookB_out (refB_key _) hs ?_ | (refine ⟨fun h => ?_, fun h => ?_⟩ <;> try (exfalso; first | omega | (revert h; decide) | exact h rfl | cases (show true = false from h) | cases (show false = true from h))) | (refine ⟨by omega, fun r hrr => ?_⟩; first | ((have hre : r = encO x := by (first | exact get_row hrr hx | fail)); subst hre)) | (refine ⟨_, isAcc_h, x.fr, trivial, leVs_of_eq rfl, .inl rfl, rfl, ?_⟩; show norm (B (decide (accnP x.fr))) _; rw [d1]) | (refine ⟨_, isAcc_h, x.to, trivial, leVs_of_eq rfl, .inl rfl, rfl, ?_⟩; show norm (B (decide (accnP x.to))) _; rw [d2]) | (refine ⟨(k + 1, _), ⟨?_, by (try dsimp only); omega⟩, [], ⟨⟨rfl, rfl⟩, ⟨rfl, rfl⟩, ⟨rfl, rfl⟩, ⟨rfl, rfl⟩, trivial⟩, ⟨⟨rfl, rfl, rfl⟩, trivial⟩, rfl, rfl, rfl⟩; (try dsimp only); exact ⟨⟨by omega, fe_go h0 (hE.trans (if_neg (by rw [hs]; decide)))⟩, (setT (x := x) (refB_key _) hs).trans (congrArg (kvT keyO) (take_snoc _ _ _ hx).symm)⟩) | refine ⟨⟨by omega, by omega⟩, ?_⟩ | fail)
   · have hE' := hE.trans (if_pos hp)
     rw [hp0] at hp
     repeat' ((conv => whnf); first | (refine ⟨fun h => ?_, fun h => ?_⟩ <;> try (exfalso; first | omega | (revert h; decide) | exact h rfl | cases (show true = false from h) | cases (show false = true from h))) | (refine ⟨by omega, fun r hrr => ?_⟩; first | ((have hre : r = encO x := by (first | exact get_row hrr hx | fail)); subst hre)) | (refine ⟨_, isAcc_h, x.fr, trivial, leVs_of_eq rfl, .inl rfl, rfl, ?_⟩; show norm (B (decide (accnP x.fr))) _; rw [d1]) | (refine ⟨_, isAcc_h, x.to, trivial, leVs_of_eq rfl, .inl rfl, rfl, ?_⟩; show norm (B (decide (accnP x.to))) _; rw [d2]) | fail)
     all_goals (refine ⟨[], rfl, trivial, congrArg (CV.int .i64) ?_⟩; exact (hT.trans (fe_hit hkl h0 hE' (by decide))).symm)
 · have hkn : k = l.length := by omega
   subst hkn
   repeat' ((conv => whnf); first | (refine ⟨fun h => ?_, fun h => ?_⟩ <;> try (exfalso; first | omega | (revert h; decide) | exact h rfl | cases (show true = false from h) | cases (show false = true from h))) | fail)
   all_goals (refine ⟨[], rfl, trivial, congrArg (CV.int .i64) ?_⟩; exact (hT.trans h0).symm)
theorem lright_h : Holds Tryz.prog 70 lrightS := holds_of mix Tryz.func70 lrightLow (fun _ => rfl) lrightV
def rlrightIr : IFn := ⟨75, [.tmp 2], (zq [ zl 2 .mov [zi 0]] (.seq (zq [ zm 6 0, zo 7 .len [6], zl 8 (.cmp .gtr) [.tmp 7, zi 2000]] (.cond (.tmp 8) (zq [ zl 2 .mov [zi 4]] .ret) .skip)) (.seq (zq [ zl 3 .mov [zi 0]] (.block 0 (.loop (.seq (zq [ zm 9 3, zm 10 0, zo 11 .len [10], zo 12 (.cmp .lss) [9, 11]] (.cond (.tmp 12) .skip (.exit 0))) (.seq (.block 1 (zq [ zm 15 0, zm 16 3, zo 17 (.idx 4) [15, 16], zo 18 (.load 4 true) [17], zo 4 (.alloc [.int .i64 0, .int .i64 0, .int .i64 0, .int .i64 0]) [], zn (.store 4) [4, 18]] (.seq (zq [ zo 19 (.faddr 0) [4], zo 20 (.load 1 false) [19], zl 21 (.cmp .lss) [.tmp 20, zi 1],
 zm 22 21, zg 23 (.faddr 0) [4] 22 false, zg 24 (.load 1 false) [23] 22 false, zh 25 (.cmp .gtr) [.tmp 24, zi 1000000000] 22 false, zl 26 .pick [.tmp 22, zv, .tmp 25], zm 27 26, zg 28 (.faddr 1) [4] 27 false, zg 29 (.load 1 false) [28] 27 false, zh 30 (.cmp .lss) [.tmp 29, zi 0] 27 false, zl 31 .pick [.tmp 27, zv, .tmp 30], zm 32 31, zg 33 (.faddr 1) [4] 32 false, zg 34 (.load 1 false) [33] 32 false, zh 35 (.cmp .gtr) [.tmp 34, zi 9999] 32 false, zl 36 .pick [.tmp 32, zv, .tmp 35], zm 37 36, zg 38 (.faddr 2) [4] 37 false, zg 39 (.load 1 false) [38] 37 false, zh 40 (.cmp .lss) [.tmp 39, zi 0] 37
 false, zl 41 .pick [.tmp 37, zv, .tmp 40], zm 42 41, zg 43 (.faddr 2) [4] 42 false, zg 44 (.load 1 false) [43] 42 false, zh 45 (.cmp .gtr) [.tmp 44, zi 9999] 42 false, zl 46 .pick [.tmp 42, zv, .tmp 45], zm 47 46, zg 48 (.faddr 3) [4] 47 false, zg 49 (.load 1 false) [48] 47 false, zh 50 (.cmp .lss) [.tmp 49, zi 1] 47 false, zl 51 .pick [.tmp 47, zv, .tmp 50], zm 52 51, zg 53 (.faddr 3) [4] 52 false, zg 54 (.load 1 false) [53] 52 false, zh 55 (.cmp .gtr) [.tmp 54, zi 1099511627776] 52 false, zl 56 .pick [.tmp 52, zv, .tmp 55]] (.cond (.tmp 56) (zq [ zl 2 .mov [zi 2]] .ret) .skip)) (.seq (zq [ zo
 57 (.faddr 1) [4], zo 58 (.load 1 false) [57], zo 59 (.faddr 2) [4], zo 60 (.load 1 false) [59], zo 61 (.cmp .eql) [58, 60]] (.cond (.tmp 61) (zq [ zl 2 .mov [zi 1]] .ret) .skip)) (zq [ zl 5 .mov [zi 0]] (.block 2 (.loop (.seq (zq [ zm 62 5, zm 63 3, zo 64 (.cmp .lss) [62, 63]] (.cond (.tmp 64) .skip (.exit 2))) (.seq (.block 3 (.seq (.ops [ zm 67 0, zm 68 5, zo 69 (.idx 4) [67, 68], zo 70 (.faddr 0) [69], zo 71 (.load 1 false) [70], zo 72 (.faddr 0) [4], zo 73 (.load 1 false) [72], zo 74 (.cmp .eql) [71, 73]] true) (.cond (.tmp 74) (zq [ zl 2 .mov [zi 7]] .ret) .skip))) (zp [ zm 65 5, zl 66
 (.bin .add .i64 false) [.tmp 65, zi 1], zm 5 66])))))))))) (zp [ zm 13 3, zl 14 (.bin .add .i64 false) [.tmp 13, zi 1], zm 3 14])))))) (zq [ zl 2 .mov [zi 0]] .ret))))⟩
theorem rlrightLow : lowF Tryz.prog {} Tryz.f43 = some rlrightIr := by kernel_rfl
def rlrightS : Spec := spec (List Pst) (fun l => [L 4 (l.map encO)]) (fun l => l.length ≤ 9223372036854775807) (fun l => I (ledR l))
theorem rlrightV : fnV Tryz.prog rlrightIr rlrightS := by
 intro (l : List Pst) hx
 replace hx : l.length ≤ 9223372036854775807 := hx
 have hl : (l.map encO).length = l.length := List.length_map ..
 show vc _ _ _ _ ⟨argEnv 0 [L 4 (l.map encO)], [], 0⟩
 by_cases hb : 2000 < l.length
 · repeat' ((conv => whnf); first | (refine ⟨fun h => ?_, fun h => ?_⟩ <;> try (exfalso; first | omega | (revert h; decide) | exact h rfl | cases (show true = false from h) | cases (show false = true from h))) | fail)
   all_goals (refine ⟨[], rfl, trivial, congrArg (CV.int .i64) ?_⟩; exact ((show ledR l = 4 from if_pos hb)).symm)
 have hT : ledR l = fe (ledE l) l.length := if_neg hb
 repeat' ((conv => whnf); first | (refine ⟨fun h => ?_, fun h => ?_⟩ <;> try (exfalso; first | omega | (revert h; decide) | exact h rfl | cases (show true = false from h) | cases (show false = true from h))) | fail)
 refine ⟨Nat, fun xq => ⟨[(0, L 4 (l.map encO)), (3, I xq)], [], 0⟩, fun xq => xq ≤ l.length ∧ fe (ledE l) xq = 0, fun xq => l.length - xq, ⟨0, ?_, [], ⟨⟨rfl, rfl⟩, ⟨rfl, rfl⟩, trivial⟩, trivial, rfl, rfl, rfl⟩, ?_⟩
 · (try dsimp only); exact ⟨Nat.zero_le _, rfl⟩
 rintro k hk
 obtain ⟨hk, h0⟩ : k ≤ l.length ∧ fe (ledE l) k = 0 := hk
 (try dsimp only)
 by_cases hkl : k < l.length
 · obtain ⟨x, hx⟩ := getElem_some hkl
   have hE : ledE l k = if ¬ ledP x then 2 else if x.fr = x.to then 1 else if (l.take k).any (refB x.ref) = true then 7 else 0 := by unfold ledE; rw [at_of hx]
   have hp0 : ledP x = ((1 ≤ x.ref ∧ x.ref ≤ 1000000000) ∧ (0 ≤ x.fr ∧ x.fr ≤ 9999) ∧ (0 ≤ x.to ∧ x.to ≤ 9999) ∧ 1 ≤ x.am ∧ x.am ≤ 1099511627776) := rfl
   by_cases hp : ledP x
   · rw [if_neg (Decidable.not_not.2 hp)] at hE
     rw [hp0] at hp
     by_cases hw : x.fr = x.to
     · repeat' ((conv => whnf); first | (refine ⟨fun h => ?_, fun h => ?_⟩ <;> try (exfalso; first | omega | (revert h; decide) | exact h rfl | cases (show true = false from h) | cases (show false = true from h))) | (refine ⟨by omega, fun r hrr => ?_⟩; first | ((have hre : r = encO x := by (first | exact get_row hrr hx | fail)); subst hre)) | fail)
       all_goals (refine ⟨[], rfl, trivial, congrArg (CV.int .i64) ?_⟩; exact (hT.trans (fe_hit hkl h0 (hE.trans (if_pos hw)) (by decide))).symm)
     · rw [if_neg hw] at hE
       repeat' ((conv => whnf); first | (refine ⟨fun h => ?_, fun h => ?_⟩ <;> try (exfalso; first | omega | (revert h; decide) | exact h rfl | cases (show true = false from h) | cases (show false = true from h))) | (refine ⟨by omega, fun r hrr => ?_⟩; first | ((have hre : r = encO x := by (first | exact get_row hrr hx | fail)); subst hre)) | fail)
       refine ⟨Nat, fun xq => ⟨[(0, L 4 (l.map encO)), (3, I k), (4, .bp 0 0), (5, I xq)], [(0, .box ((encO x).map .c))], 1⟩, fun xq => xq ≤ k ∧ ∀ y ∈ l.take xq, refB x.ref y = false, fun xq => k - xq, ⟨0, ?_, [], ⟨⟨rfl, rfl⟩, ⟨rfl, rfl⟩, ⟨rfl, rfl⟩, ⟨rfl, rfl⟩, trivial⟩, ⟨⟨rfl, rfl, rfl⟩, trivial⟩, rfl, rfl, rfl⟩, ?_⟩
       · (try dsimp only); exact ⟨Nat.zero_le _, by simp⟩
       rintro i hk
       obtain ⟨hi, hn⟩ : i ≤ k ∧ ∀ y ∈ l.take i, refB x.ref y = false := hk
       (try dsimp only)
       by_cases hik : i < k
       · obtain ⟨y, hy⟩ := getElem_some (show i < l.length by omega)
         by_cases hyx : y.ref = x.ref
         · repeat' ((conv => whnf); first | (refine ⟨fun h => ?_, fun h => ?_⟩ <;> try (exfalso; first | omega | (revert h; decide) | exact h rfl | cases (show true = false from h) | cases (show false = true from h))) | (refine ⟨by omega, fun r hrr => ?_⟩; first | ((have hre : r = encO y := by (first | exact get_row hrr hy | fail)); subst hre)) | refine ⟨⟨by omega, by omega⟩, ?_⟩ | fail)
           all_goals (refine ⟨[], rfl, trivial, congrArg (CV.int .i64) ?_⟩; exact (hT.trans (fe_hit hkl h0 (hE.trans (if_pos (any_yes hik hy (decide_eq_true hyx)))) (by decide))).symm)
         · repeat' ((conv => whnf); first | (refine ⟨fun h => ?_, fun h => ?_⟩ <;> try (exfalso; first | omega | (revert h; decide) | exact h rfl | cases (show true = false from h) | cases (show false = true from h))) | (refine ⟨by omega, fun r hrr => ?_⟩; first | ((have hre : r = encO y := by (first | exact get_row hrr hy | fail)); subst hre)) | (refine ⟨i + 1, ⟨?_, by (try dsimp only); omega⟩, [], ⟨⟨rfl, rfl⟩, ⟨rfl, rfl⟩, ⟨rfl, rfl⟩, ⟨rfl, rfl⟩, trivial⟩, ⟨⟨rfl, rfl, rfl⟩, trivial⟩, rfl, rfl, rfl⟩; (try dsimp only); exact ⟨by omega, no_step hy hn (decide_eq_false hyx)⟩) | refine ⟨⟨by omega, by omega⟩, ?_⟩ | fail)
       · have hik : i = k := by omega
         subst hik
         repeat' ((conv => whnf); first | (refine ⟨fun h => ?_, fun h => ?_⟩ <;> try (exfalso; first | omega | (revert h; decide) | exact h rfl | cases (show true = false from h) | cases (show false = true from h))) | (refine ⟨_ + 1, ⟨?_, by (try dsimp only); omega⟩, [], ⟨⟨rfl, rfl⟩, ⟨rfl, rfl⟩, trivial⟩, trivial, rfl, rfl, rfl⟩; (try dsimp only); exact ⟨by omega, fe_go h0 (hE.trans (if_neg (by rw [any_no hn]; decide)))⟩) | refine ⟨⟨by omega, by omega⟩, ?_⟩ | fail)
   · have hE' := hE.trans (if_pos hp)
     rw [hp0] at hp
     repeat' ((conv => whnf); first | (refine ⟨fun h => ?_, fun h => ?_⟩ <;> try (exfalso; first | omega | (revert h; decide) | exact h rfl | cases (show true = false from h) | cases (show false = true from h))) | (refine ⟨by omega, fun r hrr => ?_⟩; first | ((have hre : r = encO x := by (first | exact get_row hrr hx | fail)); subst hre)) | fail)
     all_goals (refine ⟨[], rfl, trivial, congrArg (CV.int .i64) ?_⟩; exact (hT.trans (fe_hit hkl h0 hE' (by decide))).symm)
 · have hkn : k = l.length := by omega
   subst hkn
   repeat' ((conv => whnf); first | (refine ⟨fun h => ?_, fun h => ?_⟩ <;> try (exfalso; first | omega | (revert h; decide) | exact h rfl | cases (show true = false from h) | cases (show false = true from h))) | fail)
   all_goals (refine ⟨[], rfl, trivial, congrArg (CV.int .i64) ?_⟩; exact (hT.trans h0).symm)
theorem rlright_h : Holds Tryz.prog 43 rlrightS := holds_of mix Tryz.func43 rlrightLow (fun _ => rfl) rlrightV
def ridxIr : IFn := ⟨33, [.tmp 6], (zq [ zl 6 .mov [zi 0]] (.seq (zq [ zl 7 .mov [zi 0]] (.block 0 (.loop (.seq (zq [ zm 8 7, zm 9 0, zo 10 .len [9], zo 11 (.cmp .lss) [8, 10]] (.cond (.tmp 11) .skip (.exit 0))) (.seq (.block 1 (zq [ zm 14 0, zm 15 7, zo 16 (.idx 8) [14, 15], zo 17 (.faddr 1) [16], zo 18 (.faddr 0) [17], zo 19 (.load 1 false) [18], zm 20 1, zo 21 (.cmp .eql) [19, 20], zm 22 21, zw 23 0 22 true, zw 24 7 22 true, zg 25 (.idx 8) [23, 24] 22 true, zg 26 (.faddr 1) [25] 22 true, zg 27 (.faddr 1) [26] 22 true, zg 28 (.load 1 false) [27] 22 true, zw 29 2 22 true, zg 30 (.cmp .eql) [28, 29] 22 true, zl 31
 .pick [.tmp 22, .tmp 30, zf]] (.cond (.tmp 31) (zq [ zm 32 7, zm 6 32] .ret) .skip))) (zp [ zm 12 7, zl 13 (.bin .add .i64 false) [.tmp 12, zi 1], zm 7 13])))))) (zq [ zl 6 .mov [zi (-1)]] .ret)))⟩
theorem ridxLow : lowF Tryz.prog {} Tryz.f45 = some ridxIr := by kernel_rfl
def ridxS : Spec := spec (List Cnt × Int × Int) (fun p => [L 8 (p.1.map encC), I p.2.1, I p.2.2]) (fun p => p.1.length ≤ 9223372036854775807) (fun p => I (idxC p.1 p.2.1 p.2.2))
theorem ridxV : fnV Tryz.prog ridxIr ridxS := by
 intro ⟨(l : List Cnt), (g : Int), (s : Int)⟩ hx
 replace hx : l.length ≤ 9223372036854775807 := hx
 have hl : (l.map encC).length = l.length := List.length_map ..
 show vc _ _ _ _ ⟨argEnv 0 [L 8 (l.map encC), I g, I s], [], 0⟩
 conv => whnf
 refine ⟨Nat, fun xq => ⟨[(0, L 8 (l.map encC)), (1, I g), (2, I s), (7, I xq)], [], 0⟩, fun xq => xq ≤ l.length ∧ ∀ y ∈ l.take xq, keyB g s y = false, fun xq => l.length - xq, ⟨0, ?_, [], ⟨⟨rfl, rfl⟩, ⟨rfl, rfl⟩, ⟨rfl, rfl⟩, ⟨rfl, rfl⟩, trivial⟩, trivial, rfl, rfl, rfl⟩, ?_⟩
 · (try dsimp only); exact ⟨Nat.zero_le _, by simp⟩
 rintro k hk
 obtain ⟨hk, hn⟩ : k ≤ l.length ∧ ∀ y ∈ l.take k, keyB g s y = false := hk
 (try dsimp only)
 by_cases hkl : k < l.length
 · obtain ⟨x, hx⟩ := getElem_some hkl
   by_cases hb : x.r.gate = g ∧ x.r.seq = s
   · have hf := fidx_at hx hn (decide_eq_true hb)
     repeat' ((conv => whnf); first | (refine ⟨fun h => ?_, fun h => ?_⟩ <;> try (exfalso; first | omega | (revert h; decide) | exact h rfl | cases (show true = false from h) | cases (show false = true from h))) | (refine ⟨by omega, fun r hrr => ?_⟩; first | ((have hre : r = encC x := by (first | exact get_row hrr hx | fail)); subst hre)) | fail)
     all_goals (refine ⟨[], rfl, trivial, congrArg (CV.int .i64) ?_⟩; exact (show idxC l g s = _ by unfold idxC; rw [hf]).symm)
   · repeat' ((conv => whnf); first | (refine ⟨fun h => ?_, fun h => ?_⟩ <;> try (exfalso; first | omega | (revert h; decide) | exact h rfl | cases (show true = false from h) | cases (show false = true from h))) | (refine ⟨by omega, fun r hrr => ?_⟩; first | ((have hre : r = encC x := by (first | exact get_row hrr hx | fail)); subst hre)) | (refine ⟨k + 1, ⟨?_, by (try dsimp only); omega⟩, [], ⟨⟨rfl, rfl⟩, ⟨rfl, rfl⟩, ⟨rfl, rfl⟩, ⟨rfl, rfl⟩, trivial⟩, trivial, rfl, rfl, rfl⟩; (try dsimp only); exact ⟨by omega, no_step hx hn (decide_eq_false hb)⟩) | refine ⟨⟨by omega, by omega⟩, ?_⟩ | fail)
 · rw [take_end hkl] at hn
   have hf := fidx_none hn
   repeat' ((conv => whnf); first | (refine ⟨fun h => ?_, fun h => ?_⟩ <;> try (exfalso; first | omega | (revert h; decide) | exact h rfl | cases (show true = false from h) | cases (show false = true from h))) | fail)
   all_goals (refine ⟨[], rfl, trivial, congrArg (CV.int .i64) ?_⟩; exact (show idxC l g s = _ by unfold idxC; rw [hf]).symm)
theorem ridx_h : Holds Tryz.prog 45 ridxS := holds_of mix Tryz.func45 ridxLow (fun _ => rfl) ridxV
def rRightIr : IFn := ⟨85, [.tmp 2], (zq [ zo 1 .box [0], zl 2 .mov [zi 0]] (.seq (zq [ zo 7 (.faddr 0) [1], zo 8 (.load 1 false) [7], zo 9 .len [8], zl 10 (.cmp .gtr) [.tmp 9, zi 64], zm 11 10, zg 12 (.faddr 2) [1] 11 false, zg 13 (.load 1 false) [12] 11 false, zg 14 .len [13] 11 false, zh 15 (.cmp .gtr) [.tmp 14, zi 2000] 11 false, zl 16 .pick [.tmp 11, zv, .tmp 15]] (.cond (.tmp 16) (zq [ zl 2 .mov [zi 4]] .ret) .skip)) (.seq (zq [ zo 17 (.faddr 0) [1], zo 18 (.load 1 false) [17], zo 19 (.call 42) [18], zm 3 19] (zq [ zm 20 3, zl 21 (.cmp .neq) [.tmp 20, zi 0]] (.cond (.tmp 21) (zq [ zm 22 3, zm 2 22] .ret)
 .skip))) (.seq (zq [ zo 23 (.faddr 1) [1], zo 24 (.load 1 false) [23], zo 25 (.call 43) [24], zm 4 25] (zq [ zm 26 4, zl 27 (.cmp .neq) [.tmp 26, zi 0]] (.cond (.tmp 27) (zq [ zm 28 4, zm 2 28] .ret) .skip))) (.seq (zq [ zl 5 .mov [zi 0]] (.block 0 (.loop (.seq (zq [ zm 29 5, zo 30 (.faddr 2) [1], zo 31 (.load 1 false) [30], zo 32 .len [31], zo 33 (.cmp .lss) [29, 32]] (.cond (.tmp 33) .skip (.exit 0))) (.seq (.block 1 (zq [ zo 36 (.faddr 2) [1], zo 37 (.load 1 false) [36], zm 38 5, zo 39 (.idx 8) [37, 38], zo 40 (.load 8 true) [39], zo 6 (.alloc [.int .i64 0, .int .i64 0, .int .i64 0, .int
 .i64 0, .int .i64 0, .int .i64 0, .int .i64 0, .int .i64 0]) [], zn (.store 8) [6, 40]] (.block 2 (zq [ zo 42 (.faddr 0) [6], zo 43 (.load 1 false) [42], zl 44 (.cmp .lss) [.tmp 43, zi 1], zm 45 44, zg 46 (.faddr 0) [6] 45 false, zg 47 (.load 1 false) [46] 45 false, zg 48 (.faddr 0) [1] 45 false, zg 49 (.load 1 false) [48] 45 false, zg 50 .len [49] 45 false, zg 51 (.cmp .gtr) [47, 50] 45 false, zl 52 .pick [.tmp 45, zv, .tmp 51], zm 41 52] (.cond (.tmp 41) (zq [ zl 2 .mov [zi 8]] .ret) (zq [ zo 54 (.faddr 1) [6], zo 55 (.load 7 true) [54], zo 56 (.call 44) [55], zo 57 .not [56], zm 53 57]
 (.cond (.tmp 53) (zq [ zl 2 .mov [zi 2]] .ret) (.seq (.ops [ zo 59 (.faddr 1) [6], zo 60 (.faddr 6) [59], zo 61 (.load 1 false) [60], zo 62 (.faddr 0) [1], zo 63 (.load 1 false) [62], zo 64 (.faddr 0) [6], zo 65 (.load 1 false) [64], zl 66 (.bin .sub .i64 false) [.tmp 65, zi 1], zo 67 (.idx 5) [63, 66], zo 68 (.faddr 1) [67], zo 69 (.faddr 1) [68], zo 70 (.load 1 false) [69], zo 71 (.cmp .geq) [61, 70], zm 58 71] true) (.cond (.tmp 58) (zq [ zl 2 .mov [zi 11]] .ret) (.seq (.ops [ zo 73 (.faddr 2) [1], zo 74 (.load 1 false) [73], zm 75 5, zo 76 (.slice 8 false true) [74, 75], zo 77 (.faddr 1)
 [6], zo 78 (.faddr 0) [77], zo 79 (.load 1 false) [78], zo 80 (.faddr 1) [6], zo 81 (.faddr 1) [80], zo 82 (.load 1 false) [81], zo 83 (.call 45) [76, 79, 82], zl 84 (.cmp .geq) [.tmp 83, zi 0], zm 72 84] true) (.cond (.tmp 72) (zq [ zl 2 .mov [zi 7]] .ret) .skip))))))))))) (zp [ zm 34 5, zl 35 (.bin .add .i64 false) [.tmp 34, zi 1], zm 5 35])))))) (zq [ zl 2 .mov [zi 0]] .ret))))))⟩
theorem rRightLow : lowF Tryz.prog {} Tryz.f15 = some rRightIr := by kernel_rfl
def rRightS : Spec := spec Bk (fun b => [aB b]) okB (fun b => I (rightB b))
set_option maxHeartbeats 1000000 in
theorem rRightV : fnV Tryz.prog rRightIr rRightS := by
 intro (b : Bk) hb
 have hb0 : okB b := hb
 obtain ⟨⟨hb1, hb2⟩, hb3, hb4⟩ := hb
 have hlp : (b.ps.map encP).length = b.ps.length := List.length_map ..
 have hlo : (b.po.map encO).length = b.po.length := List.length_map ..
 have hlr : (b.rs.map encC).length = b.rs.length := List.length_map ..
 show vc _ _ _ _ ⟨argEnv 0 [aB b], [], 0⟩
 have hR : rightB b = if 64 < b.ps.length ∨ 2000 < b.rs.length then 4 else if persE b.ps ≠ 0 then persE b.ps else if ledR b.po ≠ 0 then ledR b.po else cntR b := rfl
 by_cases h1 : 64 < b.ps.length ∨ 2000 < b.rs.length
 · repeat' ((conv => whnf); first | (refine ⟨fun h => ?_, fun h => ?_⟩ <;> try (exfalso; first | omega | (revert h; decide) | exact h rfl | cases (show true = false from h) | cases (show false = true from h))) | fail)
   all_goals (refine ⟨[], rfl, trivial, congrArg (CV.int .i64) ?_⟩; exact (hR.trans (if_pos h1)).symm)
 rw [if_neg h1] at hR
 by_cases h2 : persE b.ps ≠ 0
 · repeat' ((conv => whnf); first | (refine ⟨fun h => ?_, fun h => ?_⟩ <;> try (exfalso; first | omega | (revert h; decide) | exact h rfl | cases (show true = false from h) | cases (show false = true from h))) | (refine ⟨_, rperF_h, b.ps, ⟨hb1, hb4⟩, leVs_of_eq rfl, .inl rfl, rfl, ?_⟩; show norm (I (persE b.ps)) _) | fail)
   all_goals (refine ⟨[], rfl, trivial, congrArg (CV.int .i64) ?_⟩; exact (hR.trans (if_pos h2)).symm)
 rw [if_neg h2] at hR
 by_cases h3 : ledR b.po ≠ 0
 · repeat' ((conv => whnf); first | (refine ⟨fun h => ?_, fun h => ?_⟩ <;> try (exfalso; first | omega | (revert h; decide) | exact h rfl | cases (show true = false from h) | cases (show false = true from h))) | (refine ⟨_, rperF_h, b.ps, ⟨hb1, hb4⟩, leVs_of_eq rfl, .inl rfl, rfl, ?_⟩; show norm (I (persE b.ps)) _) | (refine ⟨_, rlright_h, b.po, hb2, leVs_of_eq rfl, .inl rfl, rfl, ?_⟩; show norm (I (ledR b.po)) _) | fail)
   all_goals (refine ⟨[], rfl, trivial, congrArg (CV.int .i64) ?_⟩; exact (hR.trans (if_pos h3)).symm)
 rw [if_neg h3] at hR
 repeat' ((conv => whnf); first | (refine ⟨fun h => ?_, fun h => ?_⟩ <;> try (exfalso; first | omega | (revert h; decide) | exact h rfl | cases (show true = false from h) | cases (show false = true from h))) | (refine ⟨_, rperF_h, b.ps, ⟨hb1, hb4⟩, leVs_of_eq rfl, .inl rfl, rfl, ?_⟩; show norm (I (persE b.ps)) _) | (refine ⟨_, rlright_h, b.po, hb2, leVs_of_eq rfl, .inl rfl, rfl, ?_⟩; show norm (I (ledR b.po)) _) | fail)
 refine ⟨Nat, fun xq => ⟨[(1, .bp 0 0), (5, I xq)], [(0, bB' b)], 1⟩, fun xq => xq ≤ b.rs.length ∧ fe (cntE b) xq = 0, fun xq => b.rs.length - xq, ⟨0, ?_, [], ⟨⟨rfl, rfl⟩, ⟨rfl, rfl⟩, trivial⟩, ⟨⟨rfl, rfl, rfl⟩, trivial⟩, rfl, rfl, rfl⟩, ?_⟩
 · (try dsimp only); exact ⟨Nat.zero_le _, rfl⟩
 rintro k hk
 obtain ⟨hk, h0⟩ : k ≤ b.rs.length ∧ fe (cntE b) k = 0 := hk
 (try dsimp only)
 by_cases hkl : k < b.rs.length
 · obtain ⟨x, hx⟩ := getElem_some hkl
   have hE : cntE b k = if x.per < 1 ∨ (b.ps.length : Int) < x.per then 8 else if ¬ rideP x.r then 2 else if (at_ b.ps per0 (x.per - 1).toNat).to ≤ x.r.time then 11 else if (b.rs.take k).any (keyB x.r.gate x.r.seq) = true then 7 else 0 := by unfold cntE; rw [at_of hx]
   by_cases c1 : x.per < 1 ∨ (b.ps.length : Int) < x.per
   · repeat' ((conv => whnf); first | (refine ⟨fun h => ?_, fun h => ?_⟩ <;> try (exfalso; first | omega | (revert h; decide) | exact h rfl | cases (show true = false from h) | cases (show false = true from h))) | (refine ⟨by omega, fun r hrr => ?_⟩; first | ((have hre : r = encC x := by (first | exact get_row hrr hx | fail)); subst hre) | ((have hre : r = encP y := by (first | exact get_rowi (j := (x.per - 1).toNat) hrr (by omega) hy | fail)); subst hre)) | fail)
     all_goals (refine ⟨[], rfl, trivial, congrArg (CV.int .i64) ?_⟩; exact (hR.trans (fe_hit hkl h0 (hE.trans (if_pos c1)) (by decide))).symm)
   rw [if_neg c1] at hE
   obtain ⟨y, hy⟩ := getElem_some (show (x.per - 1).toNat < b.ps.length by omega)
   rw [at_of hy] at hE
   cases d1 : decide (rideP x.r) with
   | false =>
     repeat' ((conv => whnf); first | (refine ⟨fun h => ?_, fun h => ?_⟩ <;> try (exfalso; first | omega | (revert h; decide) | exact h rfl | cases (show true = false from h) | cases (show false = true from h))) | (refine ⟨by omega, fun r hrr => ?_⟩; first | ((have hre : r = encC x := by (first | exact get_row hrr hx | fail)); subst hre) | ((have hre : r = encP y := by (first | exact get_rowi (j := (x.per - 1).toNat) hrr (by omega) hy | fail)); subst hre)) | (refine ⟨_, alone_h, x.r, trivial, leVs_of_eq rfl, .inl rfl, rfl, ?_⟩; show norm (B (decide (rideP x.r))) _; rw [d1]) | fail)
     all_goals (refine ⟨[], rfl, trivial, congrArg (CV.int .i64) ?_⟩; exact (hR.trans (fe_hit hkl h0 (hE.trans (if_pos (of_decide_eq_false d1))) (by decide))).symm)
   | true =>
   rw [if_neg (Decidable.not_not.2 (of_decide_eq_true d1))] at hE
   by_cases c3 : y.to ≤ x.r.time
   · repeat' ((conv => whnf); first | (refine ⟨fun h => ?_, fun h => ?_⟩ <;> try (exfalso; first | omega | (revert h; decide) | exact h rfl | cases (show true = false from h) | cases (show false = true from h))) | (refine ⟨by omega, fun r hrr => ?_⟩; first | ((have hre : r = encC x := by (first | exact get_row hrr hx | fail)); subst hre) | ((have hre : r = encP y := by (first | exact get_rowi (j := (x.per - 1).toNat) hrr (by omega) hy | fail)); subst hre)) | (refine ⟨_, alone_h, x.r, trivial, leVs_of_eq rfl, .inl rfl, rfl, ?_⟩; show norm (B (decide (rideP x.r))) _; rw [d1]) | refine ⟨⟨by omega, by omega⟩, ?_⟩ | fail)
     all_goals (refine ⟨[], rfl, trivial, congrArg (CV.int .i64) ?_⟩; exact (hR.trans (fe_hit hkl h0 (hE.trans (if_pos c3)) (by decide))).symm)
   rw [if_neg c3] at hE
   have hia := idxC_any (l := b.rs.take k) (g := x.r.gate) (s := x.r.seq)
   cases hs : (b.rs.take k).any (keyB x.r.gate x.r.seq) with
   | true =>
     rw [hs] at hia
     replace hia := of_decide_eq_true hia.symm
     repeat' ((conv => whnf); first | (refine ⟨fun h => ?_, fun h => ?_⟩ <;> try (exfalso; first | omega | (revert h; decide) | exact h rfl | cases (show true = false from h) | cases (show false = true from h))) | (refine ⟨by omega, fun r hrr => ?_⟩; first | ((have hre : r = encC x := by (first | exact get_row hrr hx | fail)); subst hre) | ((have hre : r = encP y := by (first | exact get_rowi (j := (x.per - 1).toNat) hrr (by omega) hy | fail)); subst hre)) | (refine ⟨_, alone_h, x.r, trivial, leVs_of_eq rfl, .inl rfl, rfl, ?_⟩; show norm (B (decide (rideP x.r))) _; rw [d1]) | (refine ⟨_, ridx_h, (b.rs.take k, x.r.gate, x.r.seq), (by show (b.rs.take k).length ≤ _; rw [List.length_take]; omega), ⟨(by show leV (L 8 _) (L 8 _); rw [Int.toNat_natCast, show (0 : Int).toNat = 0 from rfl, List.drop_zero, ← List.map_take]; exact leV_refl _), leV_refl _, leV_refl _, trivial⟩, .inl rfl, rfl, ?_⟩; show norm (I (idxC (b.rs.take k) x.r.gate x.r.seq)) _) | (refine ⟨⟨by decide, by omega, by omega⟩, ?_⟩) | refine ⟨⟨by omega, by omega⟩, ?_⟩ | fail)
     all_goals (refine ⟨[], rfl, trivial, congrArg (CV.int .i64) ?_⟩; exact (hR.trans (fe_hit hkl h0 (hE.trans (if_pos hs)) (by decide))).symm)
   | false =>
     rw [hs] at hia
     replace hia := of_decide_eq_false hia.symm
     repeat' ((conv => whnf); first | (refine ⟨fun h => ?_, fun h => ?_⟩ <;> try (exfalso; first | omega | (revert h; decide) | exact h rfl | cases (show true = false from h) | cases (show false = true from h))) | (refine ⟨by omega, fun r hrr => ?_⟩; first | ((have hre : r = encC x := by (first | exact get_row hrr hx | fail)); subst hre) | ((have hre : r = encP y := by (first | exact get_rowi (j := (x.per - 1).toNat) hrr (by omega) hy | fail)); subst hre)) | (refine ⟨_, alone_h, x.r, trivial, leVs_of_eq rfl, .inl rfl, rfl, ?_⟩; show norm (B (decide (rideP x.r))) _; rw [d1]) | (refine ⟨_, ridx_h, (b.rs.take k, x.r.gate, x.r.seq), (by show (b.rs.take k).length ≤ _; rw [List.length_take]; omega), ⟨(by show leV (L 8 _) (L 8 _); rw [Int.toNat_natCast, show (0 : Int).toNat = 0 from rfl, List.drop_zero, ← List.map_take]; exact leV_refl _), leV_refl _, leV_refl _, trivial⟩, .inl rfl, rfl, ?_⟩; show norm (I (idxC (b.rs.take k) x.r.gate x.r.seq)) _) | (refine ⟨⟨by decide, by omega, by omega⟩, ?_⟩) | (refine ⟨k + 1, ⟨?_, by (try dsimp only); omega⟩, [], ⟨⟨rfl, rfl⟩, ⟨rfl, rfl⟩, trivial⟩, ⟨⟨rfl, rfl, rfl⟩, trivial⟩, rfl, rfl, rfl⟩; (try dsimp only); exact ⟨by omega, fe_go h0 (hE.trans (if_neg (by rw [hs]; decide)))⟩) | refine ⟨⟨by omega, by omega⟩, ?_⟩ | fail)
 · have hkn : k = b.rs.length := by omega
   subst hkn
   repeat' ((conv => whnf); first | (refine ⟨fun h => ?_, fun h => ?_⟩ <;> try (exfalso; first | omega | (revert h; decide) | exact h rfl | cases (show true = false from h) | cases (show false = true from h))) | fail)
   all_goals (refine ⟨[], rfl, trivial, congrArg (CV.int .i64) ?_⟩; exact (hR.trans h0).symm)
theorem rRight_h : Holds Tryz.prog 15 rRightS := holds_of mix Tryz.func15 rRightLow (fun _ => rfl) rRightV
end Go.Proofs.YtjpdaapjnpdiiaaGreat.P
