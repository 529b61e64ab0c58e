/- A part of the proof. -/
import Derived.Test.YtjpdaapjnpdiiaaGreatT9
namespace Go.Proofs.YtjpdaapjnpdiiaaGreat
open Go.RowKit
def rtarsIr : IFn := ⟨87, [.tmp 2], (zq [ zl 2 .mov [zi 0]] (.seq (zq [ zm 6 0, zo 7 .len [6], zl 8 (.cmp .eql) [.tmp 7, zi 0]] (.cond (.tmp 8) (zq [ zl 2 .mov [zi 8]] .ret) .skip)) (.seq (zq [ zm 9 0, zo 10 .len [9], zl 11 (.cmp .gtr) [.tmp 10, zi 16]] (.cond (.tmp 11) (zq [ zl 2 .mov [zi 4]] .ret) .skip)) (.seq (zq [ zl 3 .mov [zi 0]] (.block 0 (.loop (.seq (zq [ zm 12 3, zm 13 0, zo 14 .len [13], zo 15 (.cmp .lss) [12, 14]] (.cond (.tmp 15) .skip (.exit 0))) (.seq (.block 1 (.seq (zq [ zm 18 0, zm 19 3, zo 20 (.idx 2) [18, 19], zo 21 (.faddr 0) [20], zo 22 (.load 1 false) [21], zl 23 (.cmp .lss) [.tmp 22, zi 0],
 zm 24 23, zw 25 0 24 false, zw 26 3 24 false, zg 27 (.idx 2) [25, 26] 24 false, zg 28 (.faddr 0) [27] 24 false, zg 29 (.load 1 false) [28] 24 false, zh 30 (.cmp .gtr) [.tmp 29, zi 20000000] 24 false, zl 31 .pick [.tmp 24, zv, .tmp 30], zm 32 31, zw 33 3 32 false, zh 34 (.cmp .eql) [.tmp 33, zi 0] 32 false, zw 35 34 32 false, zw 36 0 35 true, zw 37 3 35 true, zg 38 (.idx 2) [36, 37] 35 true, zg 39 (.faddr 0) [38] 35 true, zg 40 (.load 1 false) [39] 35 true, zh 41 (.cmp .neq) [.tmp 40, zi 0] 35 true, zh 42 .pick [.tmp 35, .tmp 41, zf] 32 false, zl 43 .pick [.tmp 32, zv, .tmp 42]] (.cond (.tmp 43)
 (zq [ zl 2 .mov [zi 2]] .ret) .skip)) (.seq (.seq (.ops [ zm 44 3, zl 45 (.cmp .gtr) [.tmp 44, zi 0], zm 46 45, zw 47 0 46 true, zw 48 3 46 true, zg 49 (.idx 2) [47, 48] 46 true, zg 50 (.faddr 0) [49] 46 true, zg 51 (.load 1 false) [50] 46 true, zw 52 0 46 true, zw 53 3 46 true, zh 54 (.bin .sub .i64 false) [.tmp 53, zi 1] 46 true, zg 55 (.idx 2) [52, 54] 46 true, zg 56 (.faddr 0) [55] 46 true, zg 57 (.load 1 false) [56] 46 true, zg 58 (.cmp .leq) [51, 57] 46 true, zl 59 .pick [.tmp 46, .tmp 58, zf]] true) (.cond (.tmp 59) (zq [ zl 2 .mov [zi 11]] .ret) .skip)) (.seq (zq [ zm 60 0, zm 61 3, zo
 62 (.idx 2) [60, 61], zo 63 (.faddr 1) [62], zo 64 (.load 1 false) [63], zo 65 .len [64], zl 66 (.cmp .gtr) [.tmp 65, zi 32]] (.cond (.tmp 66) (zq [ zl 2 .mov [zi 4]] .ret) .skip)) (zq [ zl 4 .mov [zi 0]] (.block 2 (.loop (.seq (zq [ zm 67 4, zm 68 0, zm 69 3, zo 70 (.idx 2) [68, 69], zo 71 (.faddr 1) [70], zo 72 (.load 1 false) [71], zo 73 .len [72], zo 74 (.cmp .lss) [67, 73]] (.cond (.tmp 74) .skip (.exit 2))) (.seq (.block 3 (zq [ zm 77 0, zm 78 3, zo 79 (.idx 2) [77, 78], zo 80 (.faddr 1) [79], zo 81 (.load 1 false) [80], zm 82 4, zo 83 (.call 22) [81, 82], zm 5 83] (zq [ zm 84 5, zl 85
 (.cmp .neq) [.tmp 84, zi 0]] (.cond (.tmp 85) (zq [ zm 86 5, zm 2 86] .ret) .skip)))) (zp [ zm 75 4, zl 76 (.bin .add .i64 false) [.tmp 75, zi 1], zm 4 76])))))))))) (zp [ zm 16 3, zl 17 (.bin .add .i64 false) [.tmp 16, zi 1], zm 3 17])))))) (zq [ zl 2 .mov [zi 0]] .ret)))))⟩
theorem rtarsLow : lowF Tryz.prog {} Tryz.f6 = some rtarsIr := by kernel_rfl
def rtarsS : Spec := spec (List Tariff) (fun l => [L 2 (l.map encT)]) okT (fun l => I (tarsE l))
set_option maxHeartbeats 2000000 in
theorem rtarsV : fnV Tryz.prog rtarsIr rtarsS := by
 intro (l : List Tariff) (hok : okT l)
 have hll := hok.1
 have hl : (l.map encT).length = l.length := List.length_map ..
 show vc _ _ _ _ ⟨argEnv 0 [L 2 (l.map encT)], [], 0⟩
 by_cases hz : l.length = 0
 · repeat' ((conv => whnf); first | (refine ⟨fun h => ?_, fun h => ?_⟩ <;> try (exfalso; first | omega | (revert h; decide) | exact h rfl)) | fail)
   all_goals (refine ⟨[], rfl, trivial, congrArg (CV.int .i64) ?_⟩; exact ((show tarsE l = 8 from if_pos hz)).symm)
 by_cases h16 : 16 < l.length
 · repeat' ((conv => whnf); first | (refine ⟨fun h => ?_, fun h => ?_⟩ <;> try (exfalso; first | omega | (revert h; decide) | exact h rfl)) | fail)
   all_goals (refine ⟨[], rfl, trivial, congrArg (CV.int .i64) ?_⟩; exact ((show tarsE l = 4 by unfold tarsE; rw [if_neg hz, if_pos h16])).symm)
 have hT : tarsE l = fe (tarE l) l.length := by unfold tarsE; rw [if_neg hz, if_neg h16]
 repeat' ((conv => whnf); first | (refine ⟨fun h => ?_, fun h => ?_⟩ <;> try (exfalso; first | omega | (revert h; decide) | exact h rfl)) | fail)
 refine ⟨Nat, fun xq => ⟨[(0, L 2 (l.map encT)), (3, I xq)], [], 0⟩, fun xq => xq ≤ l.length ∧ fe (tarE l) xq = 0, fun xq => l.length - xq, ⟨0, ?_, [], ⟨⟨rfl, rfl⟩, ⟨rfl, rfl⟩, trivial⟩, trivial, rfl, rfl, rfl⟩, ?_⟩
 · (try dsimp only); exact ⟨Nat.zero_le _, rfl⟩
 rintro k hk
 obtain ⟨hk, h0⟩ : k ≤ l.length ∧ fe (tarE l) k = 0 := hk
 (try dsimp only)
 by_cases hkl : k < l.length
 · obtain ⟨x, hx⟩ := getElem_some hkl
   have hox := hok.2 x (List.mem_of_getElem? hx)
   have hlr : (x.rates.map encR).length = x.rates.length := List.length_map ..
   have hE : tarE l k = if x.frm < 0 ∨ 20000000 < x.frm ∨ (k = 0 ∧ x.frm ≠ 0) then 2 else if 0 < k ∧ x.frm ≤ (at_ l tar0 (k - 1)).frm then 11 else if 32 < x.rates.length then 4 else fe (rateE x.rates) x.rates.length := by unfold tarE; rw [at_of hx]
   by_cases c1 : x.frm < 0 ∨ 20000000 < x.frm ∨ (k = 0 ∧ x.frm ≠ 0)
   · repeat' ((conv => whnf); first | (refine ⟨fun h => ?_, fun h => ?_⟩ <;> try (exfalso; first | omega | (revert h; decide) | exact h rfl)) | (refine ⟨by omega, fun r hrr => ?_⟩; first | ((have hre : r = encT x := by (first | exact get_row hrr hx | fail)); subst hre)) | refine ⟨⟨by omega, by omega⟩, ?_⟩ | fail)
     all_goals (refine ⟨[], rfl, trivial, congrArg (CV.int .i64) ?_⟩; exact (hT.trans (fe_hit hkl h0 (hE.trans (if_pos c1)) (by decide))).symm)
   rw [if_neg c1] at hE
   by_cases hk0 : k = 0
   · subst hk0
     rw [if_neg (by omega)] at hE
     by_cases h32 : 32 < x.rates.length
     · repeat' ((conv => whnf); first | (refine ⟨fun h => ?_, fun h => ?_⟩ <;> try (exfalso; first | omega | (revert h; decide) | exact h rfl)) | (refine ⟨by omega, fun r hrr => ?_⟩; first | ((have hre : r = encT x := by (first | exact get_row hrr hx | fail)); subst hre)) | refine ⟨⟨by omega, by omega⟩, ?_⟩ | fail)
       all_goals (refine ⟨[], rfl, trivial, congrArg (CV.int .i64) ?_⟩; exact (hT.trans (fe_hit hkl h0 (hE.trans (if_pos h32)) (by decide))).symm)
     rw [if_neg h32] at hE
     repeat' ((conv => whnf); first | (refine ⟨fun h => ?_, fun h => ?_⟩ <;> try (exfalso; first | omega | (revert h; decide) | exact h rfl)) | (refine ⟨by omega, fun r hrr => ?_⟩; first | ((have hre : r = encT x := by (first | exact get_row hrr hx | fail)); subst hre)) | refine ⟨⟨by omega, by omega⟩, ?_⟩ | fail)
     refine ⟨Nat, fun xq => ⟨[(0, L 2 (l.map encT)), (3, I ((0 : Nat) : Int)), (4, I xq)], [], 0⟩, fun xq => xq ≤ x.rates.length ∧ fe (rateE x.rates) xq = 0, fun xq => x.rates.length - xq, ⟨0, ?_, [], ⟨⟨rfl, rfl⟩, ⟨rfl, rfl⟩, ⟨rfl, rfl⟩, trivial⟩, trivial, rfl, rfl, rfl⟩, ?_⟩
     · (try dsimp only); exact ⟨Nat.zero_le _, rfl⟩
     rintro i hk
     obtain ⟨hi, g0⟩ : i ≤ x.rates.length ∧ fe (rateE x.rates) i = 0 := hk
     (try dsimp only)
     by_cases hil : i < x.rates.length
     · by_cases he : rateE x.rates i = 0
       · repeat' ((conv => whnf); first | (refine ⟨fun h => ?_, fun h => ?_⟩ <;> try (exfalso; first | omega | (revert h; decide) | exact h rfl)) | (refine ⟨by omega, fun r hrr => ?_⟩; first | ((have hre : r = encT x := by (first | exact get_row hrr hx | fail)); subst hre)) | (refine ⟨_, rrate_h, (x.rates, i), ⟨⟨hil, hox.1⟩, hox.2⟩, leVs_of_eq rfl, .inl rfl, rfl, ?_⟩; show norm (I (rateE x.rates i)) _; rw [he]) | (refine ⟨i + 1, ⟨?_, by (try dsimp only); omega⟩, [], ⟨⟨rfl, rfl⟩, ⟨rfl, rfl⟩, ⟨rfl, rfl⟩, trivial⟩, trivial, rfl, rfl, rfl⟩; (try dsimp only); exact ⟨by omega, fe_go g0 he⟩) | refine ⟨⟨by omega, by omega⟩, ?_⟩ | fail)
       · repeat' ((conv => whnf); first | (refine ⟨fun h => ?_, fun h => ?_⟩ <;> try (exfalso; first | omega | (revert h; decide) | exact h rfl)) | (refine ⟨by omega, fun r hrr => ?_⟩; first | ((have hre : r = encT x := by (first | exact get_row hrr hx | fail)); subst hre)) | (refine ⟨_, rrate_h, (x.rates, i), ⟨⟨hil, hox.1⟩, hox.2⟩, leVs_of_eq rfl, .inl rfl, rfl, ?_⟩; show norm (I (rateE x.rates i)) _) | refine ⟨⟨by omega, by omega⟩, ?_⟩ | fail)
         all_goals (refine ⟨[], rfl, trivial, congrArg (CV.int .i64) ?_⟩; exact (hT.trans (fe_hit hkl h0 (hE.trans (fe_hit hil g0 rfl he)) he)).symm)
     · have hin : i = x.rates.length := by omega
       subst hin
       repeat' ((conv => whnf); first | (refine ⟨fun h => ?_, fun h => ?_⟩ <;> try (exfalso; first | omega | (revert h; decide) | exact h rfl)) | (refine ⟨by omega, fun r hrr => ?_⟩; first | ((have hre : r = encT x := by (first | exact get_row hrr hx | fail)); subst hre)) | (refine ⟨_ + 1, ⟨?_, by (try dsimp only); omega⟩, [], ⟨⟨rfl, rfl⟩, ⟨rfl, rfl⟩, trivial⟩, trivial, rfl, rfl, rfl⟩; (try dsimp only); exact ⟨by omega, fe_go h0 (hE.trans g0)⟩) | refine ⟨⟨by omega, by omega⟩, ?_⟩ | fail)
   · obtain ⟨y, hy⟩ := getElem_some (show k - 1 < l.length by omega)
     rw [at_of hy] at hE
     by_cases hle : x.frm ≤ y.frm
     · repeat' ((conv => whnf); first | (refine ⟨fun h => ?_, fun h => ?_⟩ <;> try (exfalso; first | omega | (revert h; decide) | exact h rfl)) | (refine ⟨by omega, fun r hrr => ?_⟩; first | ((have hre : r = encT x := by (first | exact get_row hrr hx | fail)); subst hre) | ((have hre : r = encT y := by (first | exact get_rowi (j := k - 1) hrr (by omega) hy | fail)); subst hre)) | refine ⟨⟨by omega, by omega⟩, ?_⟩ | fail)
       all_goals (refine ⟨[], rfl, trivial, congrArg (CV.int .i64) ?_⟩; exact (hT.trans (fe_hit hkl h0 (hE.trans (if_pos ⟨by omega, hle⟩)) (by decide))).symm)
     · rw [if_neg (by omega)] at hE
       by_cases h32 : 32 < x.rates.length
       · repeat' ((conv => whnf); first | (refine ⟨fun h => ?_, fun h => ?_⟩ <;> try (exfalso; first | omega | (revert h; decide) | exact h rfl)) | (refine ⟨by omega, fun r hrr => ?_⟩; first | ((have hre : r = encT x := by (first | exact get_row hrr hx | fail)); subst hre) | ((have hre : r = encT y := by (first | exact get_rowi (j := k - 1) hrr (by omega) hy | fail)); subst hre)) | refine ⟨⟨by omega, by omega⟩, ?_⟩ | fail)
         all_goals (refine ⟨[], rfl, trivial, congrArg (CV.int .i64) ?_⟩; exact (hT.trans (fe_hit hkl h0 (hE.trans (if_pos h32)) (by decide))).symm)
       rw [if_neg h32] at hE
       repeat' ((conv => whnf); first | (refine ⟨fun h => ?_, fun h => ?_⟩ <;> try (exfalso; first | omega | (revert h; decide) | exact h rfl)) | (refine ⟨by omega, fun r hrr => ?_⟩; first | ((have hre : r = encT x := by (first | exact get_row hrr hx | fail)); subst hre) | ((have hre : r = encT y := by (first | exact get_rowi (j := k - 1) hrr (by omega) hy | fail)); subst hre)) | refine ⟨⟨by omega, by omega⟩, ?_⟩ | fail)
       refine ⟨Nat, fun xq => ⟨[(0, L 2 (l.map encT)), (3, I k), (4, I xq)], [], 0⟩, fun xq => xq ≤ x.rates.length ∧ fe (rateE x.rates) xq = 0, fun xq => x.rates.length - xq, ⟨0, ?_, [], ⟨⟨rfl, rfl⟩, ⟨rfl, rfl⟩, ⟨rfl, rfl⟩, trivial⟩, trivial, rfl, rfl, rfl⟩, ?_⟩
       · (try dsimp only); exact ⟨Nat.zero_le _, rfl⟩
       rintro i hk
       obtain ⟨hi, g0⟩ : i ≤ x.rates.length ∧ fe (rateE x.rates) i = 0 := hk
       (try dsimp only)
       by_cases hil : i < x.rates.length
       · by_cases he : rateE x.rates i = 0
         · repeat' ((conv => whnf); first | (refine ⟨fun h => ?_, fun h => ?_⟩ <;> try (exfalso; first | omega | (revert h; decide) | exact h rfl)) | (refine ⟨by omega, fun r hrr => ?_⟩; first | ((have hre : r = encT x := by (first | exact get_row hrr hx | fail)); subst hre)) | (refine ⟨_, rrate_h, (x.rates, i), ⟨⟨hil, hox.1⟩, hox.2⟩, leVs_of_eq rfl, .inl rfl, rfl, ?_⟩; show norm (I (rateE x.rates i)) _; rw [he]) | (refine ⟨i + 1, ⟨?_, by (try dsimp only); omega⟩, [], ⟨⟨rfl, rfl⟩, ⟨rfl, rfl⟩, ⟨rfl, rfl⟩, trivial⟩, trivial, rfl, rfl, rfl⟩; (try dsimp only); exact ⟨by omega, fe_go g0 he⟩) | refine ⟨⟨by omega, by omega⟩, ?_⟩ | fail)
         · repeat' ((conv => whnf); first | (refine ⟨fun h => ?_, fun h => ?_⟩ <;> try (exfalso; first | omega | (revert h; decide) | exact h rfl)) | (refine ⟨by omega, fun r hrr => ?_⟩; first | ((have hre : r = encT x := by (first | exact get_row hrr hx | fail)); subst hre)) | (refine ⟨_, rrate_h, (x.rates, i), ⟨⟨hil, hox.1⟩, hox.2⟩, leVs_of_eq rfl, .inl rfl, rfl, ?_⟩; show norm (I (rateE x.rates i)) _) | refine ⟨⟨by omega, by omega⟩, ?_⟩ | fail)
           all_goals (refine ⟨[], rfl, trivial, congrArg (CV.int .i64) ?_⟩; exact (hT.trans (fe_hit hkl h0 (hE.trans (fe_hit hil g0 rfl he)) he)).symm)
       · have hin : i = x.rates.length := by omega
         subst hin
         repeat' ((conv => whnf); first | (refine ⟨fun h => ?_, fun h => ?_⟩ <;> try (exfalso; first | omega | (revert h; decide) | exact h rfl)) | (refine ⟨by omega, fun r hrr => ?_⟩; first | ((have hre : r = encT x := by (first | exact get_row hrr hx | fail)); subst hre)) | (refine ⟨k + 1, ⟨?_, by (try dsimp only); omega⟩, [], ⟨⟨rfl, rfl⟩, ⟨rfl, rfl⟩, trivial⟩, trivial, rfl, rfl, rfl⟩; (try dsimp only); exact ⟨by omega, fe_go h0 (hE.trans g0)⟩) | refine ⟨⟨by omega, by omega⟩, ?_⟩ | fail)
 · have hkn : k = l.length := by omega
   subst hkn
   repeat' ((conv => whnf); first | (refine ⟨fun h => ?_, fun h => ?_⟩ <;> try (exfalso; first | omega | (revert h; decide) | exact h rfl)) | fail)
   all_goals (refine ⟨[], rfl, trivial, congrArg (CV.int .i64) ?_⟩; exact (hT.trans h0).symm)
theorem rtars_h : Holds Tryz.prog 6 rtarsS := holds_of mix Tryz.func6 rtarsLow (fun _ => rfl) rtarsV
end Go.Proofs.YtjpdaapjnpdiiaaGreat
