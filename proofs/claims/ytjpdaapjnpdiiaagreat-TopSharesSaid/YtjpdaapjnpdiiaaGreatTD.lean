/- A part of the proof. -/
import Derived.Test.YtjpdaapjnpdiiaaGreatTC
import Derived.Test.YtjpdaapjnpdiiaaGreatTA
import Derived.Test.YtjpdaapjnpdiiaaGreatT5
namespace Go.Proofs.YtjpdaapjnpdiiaaGreat
open Go.RowKit
def rrangesIr : IFn := ⟨71, [.tmp 2], (zq [ zo 1 .box [0], zl 2 .mov [zf]] (zq [ zo 3 (.faddr 0) [1], zo 4 (.load 1 false) [3], zl 5 (.cmp .geq) [.tmp 4, zi 1], zm 6 5, zg 7 (.faddr 0) [1] 6 true, zg 8 (.load 1 false) [7] 6 true, zh 9 (.cmp .leq) [.tmp 8, zi 9999] 6 true, zl 10 .pick [.tmp 6, .tmp 9, zf], zm 11 10, zg 12 (.faddr 2) [1] 11 true, zg 13 (.load 1 false) [12] 11 true, zh 14 (.cmp .geq) [.tmp 13, zi 1] 11 true, zl 15 .pick [.tmp 11, .tmp 14, zf], zm 16 15, zg 17 (.faddr 2) [1] 16 true, zg 18 (.load 1 false) [17] 16 true, zh 19 (.cmp .leq) [.tmp 18, zi 9999] 16 true, zl 20 .pick [.tmp 16, .tmp 19, zf], zm
 21 20, zg 22 (.faddr 4) [1] 21 true, zg 23 (.load 1 false) [22] 21 true, zh 24 (.cmp .geq) [.tmp 23, zi 1] 21 true, zl 25 .pick [.tmp 21, .tmp 24, zf], zm 26 25, zg 27 (.faddr 4) [1] 26 true, zg 28 (.load 1 false) [27] 26 true, zh 29 (.cmp .leq) [.tmp 28, zi 9999] 26 true, zl 30 .pick [.tmp 26, .tmp 29, zf], zm 31 30, zg 32 (.faddr 5) [1] 31 true, zg 33 (.load 1 false) [32] 31 true, zh 34 (.cmp .geq) [.tmp 33, zi 1] 31 true, zl 35 .pick [.tmp 31, .tmp 34, zf], zm 36 35, zg 37 (.faddr 5) [1] 36 true, zg 38 (.load 1 false) [37] 36 true, zh 39 (.cmp .leq) [.tmp 38, zi 9999] 36 true, zl 40 .pick
 [.tmp 36, .tmp 39, zf], zm 41 40, zg 42 (.faddr 1) [1] 41 true, zg 43 (.load 1 false) [42] 41 true, zh 44 (.cmp .geq) [.tmp 43, zi 1] 41 true, zl 45 .pick [.tmp 41, .tmp 44, zf], zm 46 45, zg 47 (.faddr 1) [1] 46 true, zg 48 (.load 1 false) [47] 46 true, zh 49 (.cmp .leq) [.tmp 48, zi 1000000] 46 true, zl 50 .pick [.tmp 46, .tmp 49, zf], zm 51 50, zg 52 (.faddr 3) [1] 51 true, zg 53 (.load 1 false) [52] 51 true, zh 54 (.cmp .geq) [.tmp 53, zi 1] 51 true, zl 55 .pick [.tmp 51, .tmp 54, zf], zm 56 55, zg 57 (.faddr 3) [1] 56 true, zg 58 (.load 1 false) [57] 56 true, zh 59 (.cmp .leq) [.tmp 58, zi
 1000000] 56 true, zl 60 .pick [.tmp 56, .tmp 59, zf], zm 61 60, zg 62 (.faddr 6) [1] 61 true, zg 63 (.load 1 false) [62] 61 true, zh 64 (.cmp .geq) [.tmp 63, zi 0] 61 true, zl 65 .pick [.tmp 61, .tmp 64, zf], zm 66 65, zg 67 (.faddr 6) [1] 66 true, zg 68 (.load 1 false) [67] 66 true, zh 69 (.cmp .leq) [.tmp 68, zi 20000000] 66 true, zl 70 .pick [.tmp 66, .tmp 69, zf], zm 2 70] .ret))⟩
theorem rrangesLow : lowF Tryz.prog {} Tryz.f23 = some rrangesIr := by kernel_rfl
def rrangesS : Spec := spec Ride (fun r => [aD r]) (fun _ => True) (fun r => B (decide (rideP r)))
theorem rrangesV : fnV Tryz.prog rrangesIr rrangesS := by
 intro (r : Ride) _
 show vc _ _ _ _ ⟨argEnv 0 [aD r], [], 0⟩
 have hp : rideP r = ((1 ≤ r.gate ∧ r.gate ≤ 9999) ∧ (1 ≤ r.serial ∧ r.serial ≤ 9999) ∧ (1 ≤ r.product ∧ r.product ≤ 9999) ∧ (1 ≤ r.lift ∧ r.lift ≤ 9999) ∧ (1 ≤ r.seq ∧ r.seq ≤ 1000000) ∧ (1 ≤ r.counter ∧ r.counter ≤ 1000000) ∧ 0 ≤ r.time ∧ r.time ≤ 20000000) := rfl
 repeat' ((conv => whnf); first | (refine ⟨fun h => ?_, fun h => ?_⟩ <;> try (exfalso; first | omega | (revert h; decide) | exact h rfl)) | refine ⟨[], rfl, trivial, congrArg CV.bool ?_⟩ | fail)
 all_goals first | exact (decide_eq_true (by rw [hp]; omega)).symm | exact (decide_eq_false (by rw [hp]; omega)).symm
theorem rranges_h : Holds Tryz.prog 23 rrangesS := holds_of mix Tryz.func23 rrangesLow (fun _ => rfl) rrangesV
def rbeforeIr : IFn := ⟨24, [.tmp 4], (zq [ zo 2 .box [0], zo 3 .box [1], zl 4 .mov [zf]] (zq [ zo 5 (.faddr 0) [2], zo 6 (.load 1 false) [5], zo 7 (.faddr 0) [3], zo 8 (.load 1 false) [7], zo 9 (.cmp .lss) [6, 8], zm 10 9, zg 11 (.faddr 0) [2] 10 false, zg 12 (.load 1 false) [11] 10 false, zg 13 (.faddr 0) [3] 10 false, zg 14 (.load 1 false) [13] 10 false, zg 15 (.cmp .eql) [12, 14] 10 false, zw 16 15 10 false, zg 17 (.faddr 1) [2] 16 true, zg 18 (.load 1 false) [17] 16 true, zg 19 (.faddr 1) [3] 16 true, zg 20 (.load 1 false) [19] 16 true, zg 21 (.cmp .lss) [18, 20] 16 true, zh 22 .pick [.tmp 16, .tmp 21, zf] 10
 false, zl 23 .pick [.tmp 10, zv, .tmp 22], zm 4 23] .ret))⟩
theorem rbeforeLow : lowF Tryz.prog {} Tryz.f24 = some rbeforeIr := by kernel_rfl
def rbeforeS : Spec := spec (Ride × Ride) (fun p => [aD p.1, aD p.2]) (fun _ => True) (fun p => B (decide (befD p.1 p.2)))
theorem rbeforeV : fnV Tryz.prog rbeforeIr rbeforeS := by
 intro ⟨(a : Ride), (b : Ride)⟩ _
 show vc _ _ _ _ ⟨argEnv 0 [aD a, aD b], [], 0⟩
 have hp : befD a b = (a.gate < b.gate ∨ (a.gate = b.gate ∧ a.seq < b.seq)) := rfl
 repeat' ((conv => whnf); first | (refine ⟨fun h => ?_, fun h => ?_⟩ <;> try (exfalso; first | omega | (revert h; decide) | exact h rfl)) | refine ⟨[], rfl, trivial, congrArg CV.bool ?_⟩ | fail)
 all_goals first | exact (decide_eq_true (show befD a b by rw [hp]; omega)).symm | exact (decide_eq_false (show ¬ befD a b by rw [hp]; omega)).symm
theorem rbefore_h : Holds Tryz.prog 24 rbeforeS := holds_of mix Tryz.func24 rbeforeLow (fun _ => rfl) rbeforeV
def rridesIr : IFn := ⟨34, [.tmp 2], (zq [ zl 2 .mov [zi 0]] (.seq (zq [ zm 4 0, zo 5 .len [4], zl 6 (.cmp .gtr) [.tmp 5, zi 2000]] (.cond (.tmp 6) (zq [ zl 2 .mov [zi 4]] .ret) .skip)) (.seq (zq [ zl 3 .mov [zi 0]] (.block 0 (.loop (.seq (zq [ zm 7 3, zm 8 0, zo 9 .len [8], zo 10 (.cmp .lss) [7, 9]] (.cond (.tmp 10) .skip (.exit 0))) (.seq (.block 1 (.seq (zq [ zm 13 0, zm 14 3, zo 15 (.idx 7) [13, 14], zo 16 (.load 7 true) [15], zo 17 (.call 23) [16], zo 18 .not [17]] (.cond (.tmp 18) (zq [ zl 2 .mov [zi 2]] .ret) .skip)) (.seq (.ops [ zm 19 3, zl 20 (.cmp .gtr) [.tmp 19, zi 0], zm 21 20, zw 22 0 21 true, zw 23 3
 21 true, zh 24 (.bin .sub .i64 false) [.tmp 23, zi 1] 21 true, zg 25 (.idx 7) [22, 24] 21 true, zg 26 (.load 7 true) [25] 21 true, zw 27 0 21 true, zw 28 3 21 true, zg 29 (.idx 7) [27, 28] 21 true, zg 30 (.load 7 true) [29] 21 true, zg 31 (.call 24) [26, 30] 21 true, zg 32 .not [31] 21 true, zl 33 .pick [.tmp 21, .tmp 32, zf]] true) (.cond (.tmp 33) (zq [ zl 2 .mov [zi 11]] .ret) .skip)))) (zp [ zm 11 3, zl 12 (.bin .add .i64 false) [.tmp 11, zi 1], zm 3 12])))))) (zq [ zl 2 .mov [zi 0]] .ret))))⟩
theorem rridesLow : lowF Tryz.prog {} Tryz.f7 = some rridesIr := by kernel_rfl
def rridesS : Spec := spec (List Ride) (fun l => [L 7 (l.map encD)]) (fun l => l.length ≤ 1000000) (fun l => I (ridesE l))
theorem rridesV : fnV Tryz.prog rridesIr rridesS := by
 intro (l : List Ride) hx
 replace hx : l.length ≤ 1000000 := hx
 have hl : (l.map encD).length = l.length := List.length_map ..
 show vc _ _ _ _ ⟨argEnv 0 [L 7 (l.map encD)], [], 0⟩
 by_cases hb : 2000 < l.length
 · repeat' ((conv => whnf); first | (refine ⟨fun h => ?_, fun h => ?_⟩ <;> try (exfalso; first | omega | (revert h; decide) | exact h rfl)) | fail)
   all_goals (refine ⟨[], rfl, trivial, congrArg (CV.int .i64) ?_⟩; exact ((show ridesE l = 4 from if_pos hb)).symm)
 have hT : ridesE l = fe (rideE l) l.length := if_neg hb
 repeat' ((conv => whnf); first | (refine ⟨fun h => ?_, fun h => ?_⟩ <;> try (exfalso; first | omega | (revert h; decide) | exact h rfl)) | fail)
 refine ⟨Nat, fun xq => ⟨[(0, L 7 (l.map encD)), (3, I xq)], [], 0⟩, fun xq => xq ≤ l.length ∧ fe (rideE l) xq = 0, fun xq => l.length - xq, ⟨0, ?_, [], ⟨⟨rfl, rfl⟩, ⟨rfl, rfl⟩, trivial⟩, trivial, rfl, rfl, rfl⟩, ?_⟩
 · (try dsimp only); exact ⟨Nat.zero_le _, rfl⟩
 rintro k hk
 obtain ⟨hk, h0⟩ : k ≤ l.length ∧ fe (rideE l) k = 0 := hk
 (try dsimp only)
 by_cases hkl : k < l.length
 · obtain ⟨x, hx⟩ := getElem_some hkl
   have hE : rideE l k = if ¬ rideP x then 2 else if 0 < k ∧ ¬ befD (at_ l ride0 (k - 1)) x then 11 else 0 := by unfold rideE; rw [at_of hx]
   cases hd : decide (rideP x) with
   | false =>
     repeat' ((conv => whnf); first | (refine ⟨fun h => ?_, fun h => ?_⟩ <;> try (exfalso; first | omega | (revert h; decide) | exact h rfl)) | (refine ⟨by omega, fun r hrr => ?_⟩; first | ((have hre : r = encD x := by (first | exact get_row hrr hx | fail)); subst hre)) | (refine ⟨_, rranges_h, x, trivial, leVs_of_eq rfl, .inl rfl, rfl, ?_⟩; show norm (B (decide (rideP x))) _; rw [hd]) | fail)
     all_goals (refine ⟨[], rfl, trivial, congrArg (CV.int .i64) ?_⟩; exact (hT.trans (fe_hit hkl h0 (hE.trans (if_pos (of_decide_eq_false hd))) (by decide))).symm)
   | true =>
     rw [if_neg (Decidable.not_not.2 (of_decide_eq_true hd))] at hE
     by_cases hk0 : k = 0
     · subst hk0
       repeat' ((conv => whnf); first | (refine ⟨fun h => ?_, fun h => ?_⟩ <;> try (exfalso; first | omega | (revert h; decide) | exact h rfl)) | (refine ⟨by omega, fun r hrr => ?_⟩; first | ((have hre : r = encD x := by (first | exact get_row hrr hx | fail)); subst hre)) | (refine ⟨_, rranges_h, x, trivial, leVs_of_eq rfl, .inl rfl, rfl, ?_⟩; show norm (B (decide (rideP x))) _; rw [hd]) | (refine ⟨_ + 1, ⟨?_, by (try dsimp only); omega⟩, [], ⟨⟨rfl, rfl⟩, ⟨rfl, rfl⟩, trivial⟩, trivial, rfl, rfl, rfl⟩; (try dsimp only); exact ⟨by omega, fe_go h0 (hE.trans (if_neg fun h => by omega))⟩) | refine ⟨⟨by omega, by omega⟩, ?_⟩ | fail)
     · obtain ⟨y, hy⟩ := getElem_some (show k - 1 < l.length by omega)
       rw [at_of hy] at hE
       cases hf : decide (befD y x) with
       | false =>
         repeat' ((conv => whnf); first | (refine ⟨fun h => ?_, fun h => ?_⟩ <;> try (exfalso; first | omega | (revert h; decide) | exact h rfl)) | (refine ⟨by omega, fun r hrr => ?_⟩; first | ((have hre : r = encD x := by (first | exact get_row hrr hx | fail)); subst hre) | ((have hre : r = encD y := by (first | exact get_rowi (j := k - 1) hrr (by omega) hy | fail)); subst hre)) | (refine ⟨_, rranges_h, x, trivial, leVs_of_eq rfl, .inl rfl, rfl, ?_⟩; show norm (B (decide (rideP x))) _; rw [hd]) | (refine ⟨_, rbefore_h, (y, x), trivial, leVs_of_eq rfl, .inl rfl, rfl, ?_⟩; show norm (B (decide (befD y x))) _; rw [hf]) | refine ⟨⟨by omega, by omega⟩, ?_⟩ | fail)
         all_goals (refine ⟨[], rfl, trivial, congrArg (CV.int .i64) ?_⟩; exact (hT.trans (fe_hit hkl h0 (hE.trans (if_pos ⟨by omega, of_decide_eq_false hf⟩)) (by decide))).symm)
       | true =>
         repeat' ((conv => whnf); first | (refine ⟨fun h => ?_, fun h => ?_⟩ <;> try (exfalso; first | omega | (revert h; decide) | exact h rfl)) | (refine ⟨by omega, fun r hrr => ?_⟩; first | ((have hre : r = encD x := by (first | exact get_row hrr hx | fail)); subst hre) | ((have hre : r = encD y := by (first | exact get_rowi (j := k - 1) hrr (by omega) hy | fail)); subst hre)) | (refine ⟨_, rranges_h, x, trivial, leVs_of_eq rfl, .inl rfl, rfl, ?_⟩; show norm (B (decide (rideP x))) _; rw [hd]) | (refine ⟨_, rbefore_h, (y, x), trivial, leVs_of_eq rfl, .inl rfl, rfl, ?_⟩; show norm (B (decide (befD y x))) _; rw [hf]) | (refine ⟨k + 1, ⟨?_, by (try dsimp only); omega⟩, [], ⟨⟨rfl, rfl⟩, ⟨rfl, rfl⟩, trivial⟩, trivial, rfl, rfl, rfl⟩; (try dsimp only); exact ⟨by omega, fe_go h0 (hE.trans (if_neg fun h => h.2 (of_decide_eq_true hf)))⟩) | refine ⟨⟨by omega, by omega⟩, ?_⟩ | fail)
 · have hkn : k = l.length := by omega
   subst hkn
   repeat' ((conv => whnf); first | (refine ⟨fun h => ?_, fun h => ?_⟩ <;> try (exfalso; first | omega | (revert h; decide) | exact h rfl)) | fail)
   all_goals (refine ⟨[], rfl, trivial, congrArg (CV.int .i64) ?_⟩; exact (hT.trans h0).symm)
theorem rrides_h : Holds Tryz.prog 7 rridesS := holds_of mix Tryz.func7 rridesLow (fun _ => rfl) rridesV
end Go.Proofs.YtjpdaapjnpdiiaaGreat
