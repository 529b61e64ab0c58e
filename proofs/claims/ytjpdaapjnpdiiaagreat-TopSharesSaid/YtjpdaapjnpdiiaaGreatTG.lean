/- A part of the proof. -/
import Derived.Test.YtjpdaapjnpdiiaaGreatTF
namespace Go.Proofs.YtjpdaapjnpdiiaaGreat
open Go.RowKit
def srightIr : IFn := ⟨80, [.tmp 2], (zq [ zl 2 .mov [zi 0]] (.seq (zq [ zm 6 0, zo 7 .len [6], zl 8 (.cmp .gtr) [.tmp 7, zi 2000]] (.cond (.tmp 8) (zq [ zl 2 .mov [zi 4]] .ret) .skip)) (zq [ zo 9 (.mkmap 0 false) [], zm 3 9] (.seq (zq [ zm 10 0, zo 11 .len [10], zl 12 .mov [zi 0]] (.block 0 (.loop (zq [ zo 13 (.cmp .lss) [12, 11]] (.seq (.cond (.tmp 13) .skip (.exit 0)) (.seq (.block 1 (zq [ zo 14 (.idx 6) [10, 12], zo 15 (.load 6 true) [14], zo 5 (.alloc [.int .i64 0, .int .i64 0, .int .i64 0, .int .i64 0, .int .i64 0, .int .i64 0]) [], zn (.store 6) [5, 15]] (.seq (zq [ zo 16 (.faddr 0) [5], zo 17 (.load 1 false)
 [16], zl 18 (.cmp .lss) [.tmp 17, zi 1], zm 19 18, zg 20 (.faddr 0) [5] 19 false, zg 21 (.load 1 false) [20] 19 false, zh 22 (.cmp .gtr) [.tmp 21, zi 9999] 19 false, zl 23 .pick [.tmp 19, zv, .tmp 22], zm 24 23, zg 25 (.faddr 1) [5] 24 false, zg 26 (.load 1 false) [25] 24 false, zh 27 (.cmp .lss) [.tmp 26, zi 1] 24 false, zl 28 .pick [.tmp 24, zv, .tmp 27], zm 29 28, zg 30 (.faddr 1) [5] 29 false, zg 31 (.load 1 false) [30] 29 false, zh 32 (.cmp .gtr) [.tmp 31, zi 9999] 29 false, zl 33 .pick [.tmp 29, zv, .tmp 32]] (.cond (.tmp 33) (zq [ zl 2 .mov [zi 2]] .ret) .skip)) (.seq (zq [ zo 34 (.faddr
 2) [5], zo 35 (.load 1 false) [34], zl 36 (.cmp .lss) [.tmp 35, zi 1], zm 37 36, zg 38 (.faddr 2) [5] 37 false, zg 39 (.load 1 false) [38] 37 false, zh 40 (.cmp .gtr) [.tmp 39, zi 8] 37 false, zl 41 .pick [.tmp 37, zv, .tmp 40], zm 42 41, zg 43 (.faddr 3) [5] 42 false, zg 44 (.load 1 false) [43] 42 false, zh 45 (.cmp .lss) [.tmp 44, zi 0] 42 false, zl 46 .pick [.tmp 42, zv, .tmp 45], zm 47 46, zg 48 (.faddr 3) [5] 47 false, zg 49 (.load 1 false) [48] 47 false, zh 50 (.cmp .gtr) [.tmp 49, zi 20000000] 47 false, zl 51 .pick [.tmp 47, zv, .tmp 50], zm 52 51, zg 53 (.faddr 4) [5] 52 false, zg 54
 (.load 1 false) [53] 52 false, zh 55 (.cmp .lss) [.tmp 54, zi 0] 52 false, zl 56 .pick [.tmp 52, zv, .tmp 55], zm 57 56, zg 58 (.faddr 4) [5] 57 false, zg 59 (.load 1 false) [58] 57 false, zh 60 (.cmp .gtr) [.tmp 59, zi 100000000] 57 false, zl 61 .pick [.tmp 57, zv, .tmp 60]] (.cond (.tmp 61) (zq [ zl 2 .mov [zi 2]] .ret) .skip)) (.seq (zq [ zo 62 (.faddr 5) [5], zo 63 (.load 1 false) [62], zl 64 (.cmp .lss) [.tmp 63, zi 0], zm 65 64, zg 66 (.faddr 5) [5] 65 false, zg 67 (.load 1 false) [66] 65 false, zg 68 (.faddr 4) [5] 65 false, zg 69 (.load 1 false) [68] 65 false, zg 70 (.cmp .gtr) [67, 69]
 65 false, zl 71 .pick [.tmp 65, zv, .tmp 70]] (.cond (.tmp 71) (zq [ zl 2 .mov [zi 1]] .ret) .skip)) (.seq (zq [ zm 72 3, zo 73 (.faddr 0) [5], zo 74 (.load 1 false) [73], zo 75 (.lookup [.bool false] 0 false false) [72, 74]] (.cond (.tmp 75) (zq [ zl 2 .mov [zi 7]] .ret) .skip)) (zp [ zm 76 3, zo 77 (.faddr 0) [5], zo 78 (.load 1 false) [77], ⟨none, .mapset 0 false, [.tmp 76, .tmp 78, zv], none⟩]))))))) (zp [ zl 79 (.bin .add .i64 false) [.tmp 12, zi 1], zm 12 79]))))))) (zq [ zl 2 .mov [zi 0]] .ret)))))⟩
theorem srightLow : lowF Tryz.prog {} Tryz.f26 = some srightIr := by kernel_rfl
def srightS : Spec := spec (List Sale) (fun l => [L 6 (l.map encE)]) (fun l => l.length ≤ 1000000) (fun l => I (salesE l))
set_option maxHeartbeats 4000000 in
theorem srightV : fnV Tryz.prog srightIr srightS := by
 intro (l : List Sale) hx
 replace hx : l.length ≤ 1000000 := hx
 have hl : (l.map encE).length = l.length := List.length_map ..
 show vc _ _ _ _ ⟨argEnv 0 [L 6 (l.map encE)], [], 0⟩
 by_cases hb : 2000 < l.length
 · repeat' ((conv => whnf); first | (refine ⟨fun h => ?_, fun h => ?_⟩ <;> try (exfalso; first | omega | (revert h; decide) | exact h rfl)) | fail)
   all_goals (refine ⟨[], rfl, trivial, congrArg (CV.int .i64) ?_⟩; exact ((show salesE l = 4 from if_pos hb)).symm)
 have hT : salesE l = fe (saleE l) l.length := if_neg hb
 repeat' ((conv => whnf); first | (refine ⟨fun h => ?_, fun h => ?_⟩ <;> try (exfalso; first | omega | (revert h; decide) | exact h rfl)) | fail)
 refine ⟨Nat × (List (List Int × List CV)), fun xq => ⟨[(3, .mp 0), (10, L 6 (l.map encE)), (11, I (l.map encE).length), (12, I xq.1)], [(0, .map 0 false xq.2)], 1⟩, fun xq => (xq.1 ≤ l.length ∧ fe (saleE l) xq.1 = 0) ∧ xq.2 = kvB (keysE l xq.1), fun xq => l.length - xq.1, ⟨(0, _), ?_, [], ⟨⟨rfl, rfl⟩, ⟨rfl, rfl⟩, ⟨rfl, rfl⟩, ⟨rfl, rfl⟩, trivial⟩, ⟨⟨rfl, rfl, rfl⟩, trivial⟩, rfl, rfl, rfl⟩, ?_⟩
 · (try dsimp only); exact ⟨⟨Nat.zero_le _, rfl⟩, rfl⟩
 rintro ⟨k, kv⟩ hk
 obtain ⟨⟨hk, h0⟩, rfl⟩ : (k ≤ l.length ∧ fe (saleE l) k = 0) ∧ kv = kvB (keysE l k) := hk
 (try dsimp only)
 by_cases hkl : k < l.length
 · obtain ⟨x, hx⟩ := getElem_some hkl
   have hE : saleE l k = if ¬ saleP x then 2 else if ¬ within x.fee 0 x.paid then 1 else if seenB l k x.serial = true then 7 else 0 := by unfold saleE; rw [at_of hx]
   have hp0 : saleP x = ((1 ≤ x.serial ∧ x.serial ≤ 9999) ∧ (1 ≤ x.product ∧ x.product ≤ 9999) ∧ (1 ≤ x.seller ∧ x.seller ≤ 8) ∧ (0 ≤ x.time ∧ x.time ≤ 20000000) ∧ 0 ≤ x.paid ∧ x.paid ≤ 100000000) := rfl
   have hw0 : within x.fee 0 x.paid = (0 ≤ x.fee ∧ x.fee ≤ x.paid) := rfl
   by_cases hp : saleP x
   · rw [if_neg (Decidable.not_not.2 hp)] at hE
     rw [hp0] at hp
     by_cases hw : within x.fee 0 x.paid
     · rw [if_neg (Decidable.not_not.2 hw)] at hE
       rw [hw0] at hw
       cases hs : seenB l k x.serial with
       | true =>
         repeat' ((conv => whnf); first | refine lookB_in (seen_iff.2 hs) ?_ | (refine ⟨fun h => ?_, fun h => ?_⟩ <;> try (exfalso; first | omega | (revert h; decide) | exact h rfl)) | (refine ⟨by omega, fun r hrr => ?_⟩; first | ((have hre : r = encE x := by (first | exact get_row hrr hx | fail)); subst hre)) | fail)
         all_goals (refine ⟨[], rfl, trivial, congrArg (CV.int .i64) ?_⟩; exact (hT.trans (fe_hit hkl h0 (hE.trans (if_pos hs)) (by decide))).symm)
       | false =>
         have hni : x.serial ∉ keysE l k := fun h => by rw [seen_iff.1 h] at hs; cases hs
         repeat' ((conv => whnf); first | refine lookB_out hni ?_ | (refine ⟨fun h => ?_, fun h => ?_⟩ <;> try (exfalso; first | omega | (revert h; decide) | exact h rfl)) | (refine ⟨by omega, fun r hrr => ?_⟩; first | ((have hre : r = encE x := by (first | exact get_row hrr hx | fail)); subst hre)) | (refine ⟨(k + 1, _), ⟨?_, by (try dsimp only); omega⟩, [], ⟨⟨rfl, rfl⟩, ⟨rfl, rfl⟩, ⟨rfl, rfl⟩, ⟨rfl, rfl⟩, trivial⟩, ⟨⟨rfl, rfl, rfl⟩, trivial⟩, rfl, rfl, rfl⟩; (try dsimp only); exact ⟨⟨by omega, fe_go h0 (hE.trans (if_neg (by rw [hs]; decide)))⟩, by rw [setB_out hni, keysE_snoc hx]⟩) | refine ⟨⟨by omega, by omega⟩, ?_⟩ | fail)
     · have hE' := hE.trans (if_pos hw)
       rw [hw0] at hw
       repeat' ((conv => whnf); first | (refine ⟨fun h => ?_, fun h => ?_⟩ <;> try (exfalso; first | omega | (revert h; decide) | exact h rfl)) | (refine ⟨by omega, fun r hrr => ?_⟩; first | ((have hre : r = encE x := by (first | exact get_row hrr hx | fail)); subst hre)) | fail)
       all_goals (refine ⟨[], rfl, trivial, congrArg (CV.int .i64) ?_⟩; exact (hT.trans (fe_hit hkl h0 hE' (by decide))).symm)
   · have hE' := hE.trans (if_pos hp)
     rw [hp0] at hp
     repeat' ((conv => whnf); first | (refine ⟨fun h => ?_, fun h => ?_⟩ <;> try (exfalso; first | omega | (revert h; decide) | exact h rfl)) | (refine ⟨by omega, fun r hrr => ?_⟩; first | ((have hre : r = encE x := by (first | exact get_row hrr hx | fail)); subst hre)) | fail)
     all_goals (refine ⟨[], rfl, trivial, congrArg (CV.int .i64) ?_⟩; exact (hT.trans (fe_hit hkl h0 hE' (by decide))).symm)
 · have hkn : k = l.length := by omega
   subst hkn
   repeat' ((conv => whnf); first | (refine ⟨fun h => ?_, fun h => ?_⟩ <;> try (exfalso; first | omega | (revert h; decide) | exact h rfl)) | fail)
   all_goals (refine ⟨[], rfl, trivial, congrArg (CV.int .i64) ?_⟩; exact (hT.trans h0).symm)
theorem sright_h : Holds Tryz.prog 26 srightS := holds_of mix Tryz.func26 srightLow (fun _ => rfl) srightV
def rsrightIr : IFn := ⟨66, [.tmp 2], (zq [ zl 2 .mov [zi 0]] (.seq (zq [ zm 6 0, zo 7 .len [6], zl 8 (.cmp .gtr) [.tmp 7, zi 2000]] (.cond (.tmp 8) (zq [ zl 2 .mov [zi 4]] .ret) .skip)) (.seq (zq [ zl 3 .mov [zi 0]] (.block 0 (.loop (.seq (zq [ zm 9 3, zm 10 0, zo 11 .len [10], zo 12 (.cmp .lss) [9, 11]] (.cond (.tmp 12) .skip (.exit 0))) (.seq (.block 1 (zq [ zm 15 0, zm 16 3, zo 17 (.idx 6) [15, 16], zo 18 (.load 6 true) [17], zo 4 (.alloc [.int .i64 0, .int .i64 0, .int .i64 0, .int .i64 0, .int .i64 0, .int .i64 0]) [], zn (.store 6) [4, 18]] (.seq (zq [ zo 19 (.faddr 0) [4], zo 20 (.load 1 false) [19], zl 21
 (.call 25) [.tmp 20, zi 1, zi 9999], zo 22 .not [21], zm 23 22, zg 24 (.faddr 1) [4] 23 false, zg 25 (.load 1 false) [24] 23 false, zh 26 (.call 25) [.tmp 25, zi 1, zi 9999] 23 false, zg 27 .not [26] 23 false, zl 28 .pick [.tmp 23, zv, .tmp 27], zm 29 28, zg 30 (.faddr 2) [4] 29 false, zg 31 (.load 1 false) [30] 29 false, zh 32 (.call 25) [.tmp 31, zi 1, zi 8] 29 false, zg 33 .not [32] 29 false, zl 34 .pick [.tmp 29, zv, .tmp 33], zm 35 34, zg 36 (.faddr 3) [4] 35 false, zg 37 (.load 1 false) [36] 35 false, zh 38 (.call 25) [.tmp 37, zi 0, zi 20000000] 35 false, zg 39 .not [38] 35 false, zl 40
 .pick [.tmp 35, zv, .tmp 39], zm 41 40, zg 42 (.faddr 4) [4] 41 false, zg 43 (.load 1 false) [42] 41 false, zh 44 (.call 25) [.tmp 43, zi 0, zi 100000000] 41 false, zg 45 .not [44] 41 false, zl 46 .pick [.tmp 41, zv, .tmp 45]] (.cond (.tmp 46) (zq [ zl 2 .mov [zi 2]] .ret) .skip)) (.seq (zq [ zo 47 (.faddr 5) [4], zo 48 (.load 1 false) [47], zo 49 (.faddr 4) [4], zo 50 (.load 1 false) [49], zl 51 (.call 25) [.tmp 48, zi 0, .tmp 50], zo 52 .not [51]] (.cond (.tmp 52) (zq [ zl 2 .mov [zi 1]] .ret) .skip)) (zq [ zl 5 .mov [zi 0]] (.block 2 (.loop (.seq (zq [ zm 53 5, zm 54 3, zo 55 (.cmp .lss)
 [53, 54]] (.cond (.tmp 55) .skip (.exit 2))) (.seq (.block 3 (.seq (.ops [ zm 58 0, zm 59 5, zo 60 (.idx 6) [58, 59], zo 61 (.faddr 0) [60], zo 62 (.load 1 false) [61], zo 63 (.faddr 0) [4], zo 64 (.load 1 false) [63], zo 65 (.cmp .eql) [62, 64]] true) (.cond (.tmp 65) (zq [ zl 2 .mov [zi 7]] .ret) .skip))) (zp [ zm 56 5, zl 57 (.bin .add .i64 false) [.tmp 56, zi 1], zm 5 57])))))))))) (zp [ zm 13 3, zl 14 (.bin .add .i64 false) [.tmp 13, zi 1], zm 3 14])))))) (zq [ zl 2 .mov [zi 0]] .ret))))⟩
theorem rsrightLow : lowF Tryz.prog {} Tryz.f8 = some rsrightIr := by kernel_rfl
def rsrightS : Spec := spec (List Sale) (fun l => [L 6 (l.map encE)]) (fun l => l.length ≤ 1000000) (fun l => I (salesE l))
set_option maxHeartbeats 4000000 in
theorem rsrightV : fnV Tryz.prog rsrightIr rsrightS := by
 intro (l : List Sale) hx
 replace hx : l.length ≤ 1000000 := hx
 have hl : (l.map encE).length = l.length := List.length_map ..
 show vc _ _ _ _ ⟨argEnv 0 [L 6 (l.map encE)], [], 0⟩
 by_cases hb : 2000 < l.length
 · repeat' ((conv => whnf); first | (refine ⟨fun h => ?_, fun h => ?_⟩ <;> try (exfalso; first | omega | (revert h; decide) | exact h rfl)) | fail)
   all_goals (refine ⟨[], rfl, trivial, congrArg (CV.int .i64) ?_⟩; exact ((show salesE l = 4 from if_pos hb)).symm)
 have hT : salesE l = fe (saleE l) l.length := if_neg hb
 repeat' ((conv => whnf); first | (refine ⟨fun h => ?_, fun h => ?_⟩ <;> try (exfalso; first | omega | (revert h; decide) | exact h rfl)) | fail)
 refine ⟨Nat, fun xq => ⟨[(0, L 6 (l.map encE)), (3, I xq)], [], 0⟩, fun xq => xq ≤ l.length ∧ fe (saleE l) xq = 0, fun xq => l.length - xq, ⟨0, ?_, [], ⟨⟨rfl, rfl⟩, ⟨rfl, rfl⟩, trivial⟩, trivial, rfl, rfl, rfl⟩, ?_⟩
 · (try dsimp only); exact ⟨Nat.zero_le _, rfl⟩
 rintro k hk
 obtain ⟨hk, h0⟩ : k ≤ l.length ∧ fe (saleE l) k = 0 := hk
 (try dsimp only)
 by_cases hkl : k < l.length
 · obtain ⟨x, hx⟩ := getElem_some hkl
   have hE : saleE l k = if ¬ saleP x then 2 else if ¬ within x.fee 0 x.paid then 1 else if seenB l k x.serial = true then 7 else 0 := by unfold saleE; rw [at_of hx]
   cases d0 : decide (within x.serial 1 9999) with
   | false =>
     repeat' ((conv => whnf); first | (refine ⟨fun h => ?_, fun h => ?_⟩ <;> try (exfalso; first | omega | (revert h; decide) | exact h rfl)) | (refine ⟨by omega, fun r hrr => ?_⟩; first | ((have hre : r = encE x := by (first | exact get_row hrr hx | fail)); subst hre)) | (refine ⟨_, sin_h, (x.serial, 1, 9999), trivial, leVs_of_eq rfl, .inl rfl, rfl, ?_⟩; show norm (B (decide (within (x.serial) 1 9999))) _; rw [d0]) | fail)
     all_goals (refine ⟨[], rfl, trivial, congrArg (CV.int .i64) ?_⟩; exact (hT.trans (fe_hit hkl h0 (hE.trans (if_pos fun h => of_decide_eq_false d0 h.1)) (by decide))).symm)
   | true =>
     cases d1 : decide (within x.product 1 9999) with
     | false =>
       repeat' ((conv => whnf); first | (refine ⟨fun h => ?_, fun h => ?_⟩ <;> try (exfalso; first | omega | (revert h; decide) | exact h rfl)) | (refine ⟨by omega, fun r hrr => ?_⟩; first | ((have hre : r = encE x := by (first | exact get_row hrr hx | fail)); subst hre)) | (refine ⟨_, sin_h, (x.serial, 1, 9999), trivial, leVs_of_eq rfl, .inl rfl, rfl, ?_⟩; show norm (B (decide (within (x.serial) 1 9999))) _; rw [d0]) | (refine ⟨_, sin_h, (x.product, 1, 9999), trivial, leVs_of_eq rfl, .inl rfl, rfl, ?_⟩; show norm (B (decide (within (x.product) 1 9999))) _; rw [d1]) | fail)
       all_goals (refine ⟨[], rfl, trivial, congrArg (CV.int .i64) ?_⟩; exact (hT.trans (fe_hit hkl h0 (hE.trans (if_pos fun h => of_decide_eq_false d1 h.2.1)) (by decide))).symm)
     | true =>
       cases d2 : decide (within x.seller 1 8) with
       | false =>
         repeat' ((conv => whnf); first | (refine ⟨fun h => ?_, fun h => ?_⟩ <;> try (exfalso; first | omega | (revert h; decide) | exact h rfl)) | (refine ⟨by omega, fun r hrr => ?_⟩; first | ((have hre : r = encE x := by (first | exact get_row hrr hx | fail)); subst hre)) | (refine ⟨_, sin_h, (x.serial, 1, 9999), trivial, leVs_of_eq rfl, .inl rfl, rfl, ?_⟩; show norm (B (decide (within (x.serial) 1 9999))) _; rw [d0]) | (refine ⟨_, sin_h, (x.product, 1, 9999), trivial, leVs_of_eq rfl, .inl rfl, rfl, ?_⟩; show norm (B (decide (within (x.product) 1 9999))) _; rw [d1]) | (refine ⟨_, sin_h, (x.seller, 1, 8), trivial, leVs_of_eq rfl, .inl rfl, rfl, ?_⟩; show norm (B (decide (within (x.seller) 1 8))) _; rw [d2]) | fail)
         all_goals (refine ⟨[], rfl, trivial, congrArg (CV.int .i64) ?_⟩; exact (hT.trans (fe_hit hkl h0 (hE.trans (if_pos fun h => of_decide_eq_false d2 h.2.2.1)) (by decide))).symm)
       | true =>
         cases d3 : decide (within x.time 0 20000000) with
         | false =>
           repeat' ((conv => whnf); first | (refine ⟨fun h => ?_, fun h => ?_⟩ <;> try (exfalso; first | omega | (revert h; decide) | exact h rfl)) | (refine ⟨by omega, fun r hrr => ?_⟩; first | ((have hre : r = encE x := by (first | exact get_row hrr hx | fail)); subst hre)) | (refine ⟨_, sin_h, (x.serial, 1, 9999), trivial, leVs_of_eq rfl, .inl rfl, rfl, ?_⟩; show norm (B (decide (within (x.serial) 1 9999))) _; rw [d0]) | (refine ⟨_, sin_h, (x.product, 1, 9999), trivial, leVs_of_eq rfl, .inl rfl, rfl, ?_⟩; show norm (B (decide (within (x.product) 1 9999))) _; rw [d1]) | (refine ⟨_, sin_h, (x.seller, 1, 8), trivial, leVs_of_eq rfl, .inl rfl, rfl, ?_⟩; show norm (B (decide (within (x.seller) 1 8))) _; rw [d2]) | (refine ⟨_, sin_h, (x.time, 0, 20000000), trivial, leVs_of_eq rfl, .inl rfl, rfl, ?_⟩; show norm (B (decide (within (x.time) 0 20000000))) _; rw [d3]) | fail)
           all_goals (refine ⟨[], rfl, trivial, congrArg (CV.int .i64) ?_⟩; exact (hT.trans (fe_hit hkl h0 (hE.trans (if_pos fun h => of_decide_eq_false d3 h.2.2.2.1)) (by decide))).symm)
         | true =>
           cases d4 : decide (within x.paid 0 100000000) with
           | false =>
             repeat' ((conv => whnf); first | (refine ⟨fun h => ?_, fun h => ?_⟩ <;> try (exfalso; first | omega | (revert h; decide) | exact h rfl)) | (refine ⟨by omega, fun r hrr => ?_⟩; first | ((have hre : r = encE x := by (first | exact get_row hrr hx | fail)); subst hre)) | (refine ⟨_, sin_h, (x.serial, 1, 9999), trivial, leVs_of_eq rfl, .inl rfl, rfl, ?_⟩; show norm (B (decide (within (x.serial) 1 9999))) _; rw [d0]) | (refine ⟨_, sin_h, (x.product, 1, 9999), trivial, leVs_of_eq rfl, .inl rfl, rfl, ?_⟩; show norm (B (decide (within (x.product) 1 9999))) _; rw [d1]) | (refine ⟨_, sin_h, (x.seller, 1, 8), trivial, leVs_of_eq rfl, .inl rfl, rfl, ?_⟩; show norm (B (decide (within (x.seller) 1 8))) _; rw [d2]) | (refine ⟨_, sin_h, (x.time, 0, 20000000), trivial, leVs_of_eq rfl, .inl rfl, rfl, ?_⟩; show norm (B (decide (within (x.time) 0 20000000))) _; rw [d3]) | (refine ⟨_, sin_h, (x.paid, 0, 100000000), trivial, leVs_of_eq rfl, .inl rfl, rfl, ?_⟩; show norm (B (decide (within (x.paid) 0 100000000))) _; rw [d4]) | fail)
             all_goals (refine ⟨[], rfl, trivial, congrArg (CV.int .i64) ?_⟩; exact (hT.trans (fe_hit hkl h0 (hE.trans (if_pos fun h => of_decide_eq_false d4 h.2.2.2.2)) (by decide))).symm)
           | true =>
             have hc : saleP x := ⟨of_decide_eq_true d0, of_decide_eq_true d1, of_decide_eq_true d2, of_decide_eq_true d3, of_decide_eq_true d4⟩
             rw [if_neg (Decidable.not_not.2 hc)] at hE
             cases df : decide (within x.fee 0 x.paid) with
             | false =>
               repeat' ((conv => whnf); first | (refine ⟨fun h => ?_, fun h => ?_⟩ <;> try (exfalso; first | omega | (revert h; decide) | exact h rfl)) | (refine ⟨by omega, fun r hrr => ?_⟩; first | ((have hre : r = encE x := by (first | exact get_row hrr hx | fail)); subst hre)) | (refine ⟨_, sin_h, (x.serial, 1, 9999), trivial, leVs_of_eq rfl, .inl rfl, rfl, ?_⟩; show norm (B (decide (within (x.serial) 1 9999))) _; rw [d0]) | (refine ⟨_, sin_h, (x.product, 1, 9999), trivial, leVs_of_eq rfl, .inl rfl, rfl, ?_⟩; show norm (B (decide (within (x.product) 1 9999))) _; rw [d1]) | (refine ⟨_, sin_h, (x.seller, 1, 8), trivial, leVs_of_eq rfl, .inl rfl, rfl, ?_⟩; show norm (B (decide (within (x.seller) 1 8))) _; rw [d2]) | (refine ⟨_, sin_h, (x.time, 0, 20000000), trivial, leVs_of_eq rfl, .inl rfl, rfl, ?_⟩; show norm (B (decide (within (x.time) 0 20000000))) _; rw [d3]) | (refine ⟨_, sin_h, (x.paid, 0, 100000000), trivial, leVs_of_eq rfl, .inl rfl, rfl, ?_⟩; show norm (B (decide (within (x.paid) 0 100000000))) _; rw [d4]) | (refine ⟨_, sin_h, (x.fee, 0, x.paid), trivial, leVs_of_eq rfl, .inl rfl, rfl, ?_⟩; show norm (B (decide (within x.fee 0 x.paid))) _; rw [df]) | fail)
               all_goals (refine ⟨[], rfl, trivial, congrArg (CV.int .i64) ?_⟩; exact (hT.trans (fe_hit hkl h0 (hE.trans (if_pos (of_decide_eq_false df))) (by decide))).symm)
             | true =>
               rw [if_neg (Decidable.not_not.2 (of_decide_eq_true df))] at hE
               repeat' ((conv => whnf); first | (refine ⟨fun h => ?_, fun h => ?_⟩ <;> try (exfalso; first | omega | (revert h; decide) | exact h rfl)) | (refine ⟨by omega, fun r hrr => ?_⟩; first | ((have hre : r = encE x := by (first | exact get_row hrr hx | fail)); subst hre)) | (refine ⟨_, sin_h, (x.serial, 1, 9999), trivial, leVs_of_eq rfl, .inl rfl, rfl, ?_⟩; show norm (B (decide (within (x.serial) 1 9999))) _; rw [d0]) | (refine ⟨_, sin_h, (x.product, 1, 9999), trivial, leVs_of_eq rfl, .inl rfl, rfl, ?_⟩; show norm (B (decide (within (x.product) 1 9999))) _; rw [d1]) | (refine ⟨_, sin_h, (x.seller, 1, 8), trivial, leVs_of_eq rfl, .inl rfl, rfl, ?_⟩; show norm (B (decide (within (x.seller) 1 8))) _; rw [d2]) | (refine ⟨_, sin_h, (x.time, 0, 20000000), trivial, leVs_of_eq rfl, .inl rfl, rfl, ?_⟩; show norm (B (decide (within (x.time) 0 20000000))) _; rw [d3]) | (refine ⟨_, sin_h, (x.paid, 0, 100000000), trivial, leVs_of_eq rfl, .inl rfl, rfl, ?_⟩; show norm (B (decide (within (x.paid) 0 100000000))) _; rw [d4]) | (refine ⟨_, sin_h, (x.fee, 0, x.paid), trivial, leVs_of_eq rfl, .inl rfl, rfl, ?_⟩; show norm (B (decide (within x.fee 0 x.paid))) _; rw [df]) | fail)
               refine ⟨Nat, fun xq => ⟨[(0, L 6 (l.map encE)), (3, I k), (4, .bp 0 0), (5, I xq)], [(0, .box ((encE x).map .c))], 1⟩, fun xq => xq ≤ k ∧ ∀ y ∈ l.take xq, decide (y.serial = x.serial) = false, fun xq => k - xq, ⟨0, ?_, [], ⟨⟨rfl, rfl⟩, ⟨rfl, rfl⟩, ⟨rfl, rfl⟩, ⟨rfl, rfl⟩, trivial⟩, ⟨⟨rfl, rfl, rfl⟩, trivial⟩, rfl, rfl, rfl⟩, ?_⟩
               · (try dsimp only); exact ⟨Nat.zero_le _, by simp⟩
               rintro i hk
               obtain ⟨hi, hn⟩ : i ≤ k ∧ ∀ y ∈ l.take i, decide (y.serial = x.serial) = false := hk
               (try dsimp only)
               by_cases hik : i < k
               · obtain ⟨y, hy⟩ := getElem_some (show i < l.length by omega)
                 by_cases hyx : y.serial = x.serial
                 · repeat' ((conv => whnf); first | (refine ⟨fun h => ?_, fun h => ?_⟩ <;> try (exfalso; first | omega | (revert h; decide) | exact h rfl)) | (refine ⟨by omega, fun r hrr => ?_⟩; first | ((have hre : r = encE y := by (first | exact get_row hrr hy | fail)); subst hre)) | refine ⟨⟨by omega, by omega⟩, ?_⟩ | fail)
                   all_goals (refine ⟨[], rfl, trivial, congrArg (CV.int .i64) ?_⟩; exact (hT.trans (fe_hit hkl h0 (hE.trans (if_pos (seen_yes hik hy hyx))) (by decide))).symm)
                 · repeat' ((conv => whnf); first | (refine ⟨fun h => ?_, fun h => ?_⟩ <;> try (exfalso; first | omega | (revert h; decide) | exact h rfl)) | (refine ⟨by omega, fun r hrr => ?_⟩; first | ((have hre : r = encE y := by (first | exact get_row hrr hy | fail)); subst hre)) | (refine ⟨i + 1, ⟨?_, by (try dsimp only); omega⟩, [], ⟨⟨rfl, rfl⟩, ⟨rfl, rfl⟩, ⟨rfl, rfl⟩, ⟨rfl, rfl⟩, trivial⟩, ⟨⟨rfl, rfl, rfl⟩, trivial⟩, rfl, rfl, rfl⟩; (try dsimp only); exact ⟨by omega, first_step hy hn (decide_eq_false hyx)⟩) | refine ⟨⟨by omega, by omega⟩, ?_⟩ | fail)
               · have hik : i = k := by omega
                 subst hik
                 repeat' ((conv => whnf); first | (refine ⟨fun h => ?_, fun h => ?_⟩ <;> try (exfalso; first | omega | (revert h; decide) | exact h rfl)) | (refine ⟨_ + 1, ⟨?_, by (try dsimp only); omega⟩, [], ⟨⟨rfl, rfl⟩, ⟨rfl, rfl⟩, trivial⟩, trivial, rfl, rfl, rfl⟩; (try dsimp only); exact ⟨by omega, fe_go h0 (hE.trans (if_neg (by rw [seen_no hn]; decide)))⟩) | refine ⟨⟨by omega, by omega⟩, ?_⟩ | fail)
 · have hkn : k = l.length := by omega
   subst hkn
   repeat' ((conv => whnf); first | (refine ⟨fun h => ?_, fun h => ?_⟩ <;> try (exfalso; first | omega | (revert h; decide) | exact h rfl)) | fail)
   all_goals (refine ⟨[], rfl, trivial, congrArg (CV.int .i64) ?_⟩; exact (hT.trans h0).symm)
theorem rsright_h : Holds Tryz.prog 8 rsrightS := holds_of mix Tryz.func8 rsrightLow (fun _ => rfl) rsrightV
end Go.Proofs.YtjpdaapjnpdiiaaGreat
