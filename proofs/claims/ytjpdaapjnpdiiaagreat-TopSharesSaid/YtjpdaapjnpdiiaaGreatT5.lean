/- A part of the proof. -/
import Derived.Test.YtjpdaapjnpdiiaaGreatT4
namespace Go.Proofs.YtjpdaapjnpdiiaaGreat
open Go.RowKit
def rbasesIr : IFn := ⟨49, [.tmp 2], (zq [ zo 1 .box [0], zl 2 .mov [zi 0]] (.seq (zq [ zo 7 (.faddr 3) [1], zo 8 (.load 1 false) [7], zo 9 .len [8], zl 10 (.cmp .eql) [.tmp 9, zi 0]] (.cond (.tmp 10) (zq [ zl 2 .mov [zi 8]] .ret) .skip)) (.seq (zq [ zl 3 .mov [zi 0]] (.block 0 (.loop (.seq (zq [ zm 11 3, zo 12 (.faddr 3) [1], zo 13 (.load 1 false) [12], zo 14 .len [13], zo 15 (.cmp .lss) [11, 14]] (.cond (.tmp 15) .skip (.exit 0))) (.seq (.block 1 (.seq (.ops [ zo 19 (.load 4 true) [1], zo 20 (.faddr 3) [1], zo 21 (.load 1 false) [20], zm 22 3, zo 23 (.idx 1) [21, 22], zo 24 (.load 1 false) [23], zo 25 (.call 54)
 [19, 24], zm 18 25, zo 26 (.extract 0) [18], zo 27 (.extract 1) [18], zo 4 (.alloc [.int .i64 0, .int .i64 0]) [], zn (.store 2) [4, 26], zm 5 27] true) (zq [ zm 28 5, zo 29 .not [28]] (.cond (.tmp 29) (zq [ zl 2 .mov [zi 8]] .ret) .skip)))) (zp [ zm 16 3, zl 17 (.bin .add .i64 false) [.tmp 16, zi 1], zm 3 17])))))) (.seq (zq [ zl 6 .mov [zi 1]] (.block 2 (.loop (.seq (zq [ zm 30 6, zo 31 (.faddr 3) [1], zo 32 (.load 1 false) [31], zo 33 .len [32], zo 34 (.cmp .lss) [30, 33]] (.cond (.tmp 34) .skip (.exit 2))) (.seq (.block 3 (.seq (.ops [ zo 37 (.faddr 3) [1], zo 38 (.load 1 false) [37], zm 39
 6, zo 40 (.idx 1) [38, 39], zo 41 (.load 1 false) [40], zo 42 (.faddr 3) [1], zo 43 (.load 1 false) [42], zm 44 6, zl 45 (.bin .sub .i64 false) [.tmp 44, zi 1], zo 46 (.idx 1) [43, 45], zo 47 (.load 1 false) [46], zo 48 (.cmp .leq) [41, 47]] true) (.cond (.tmp 48) (zq [ zl 2 .mov [zi 7]] .ret) .skip))) (zp [ zm 35 6, zl 36 (.bin .add .i64 false) [.tmp 35, zi 1], zm 6 36])))))) (zq [ zl 2 .mov [zi 0]] .ret)))))⟩
theorem rbasesLow : lowF Tryz.prog {} Tryz.f21 = some rbasesIr := by kernel_rfl
def rbasesS : Spec := spec Mp (fun m => [aM m]) okM (fun m => I (basesE m))
theorem rbasesV : fnV Tryz.prog rbasesIr rbasesS := by
 intro (m : Mp) (hm : okM m)
 have hm' := hm
 obtain ⟨⟨n1, n2⟩, n3, n4⟩ : (m.nodes.length ≤ 9223372036854775807 ∧ m.lifts.length ≤ 9223372036854775807) ∧ m.runs.length ≤ 9223372036854775807 ∧ m.bases.length ≤ 9223372036854775807 := hm
 have hm := hm'
 have hl : (m.bases.map e1).length = m.bases.length := List.length_map ..
 show vc _ _ _ _ ⟨argEnv 0 [aM m], [], 0⟩
 by_cases hz : m.bases.length = 0
 · repeat' ((conv => whnf); first | (refine ⟨fun h => ?_, fun h => ?_⟩ <;> try (exfalso; first | omega | (revert h; decide) | exact h rfl)) | fail)
   all_goals (refine ⟨[], rfl, trivial, congrArg (CV.int .i64) ?_⟩; exact ((show basesE m = 8 from if_pos hz)).symm)
 repeat' ((conv => whnf); first | (refine ⟨fun h => ?_, fun h => ?_⟩ <;> try (exfalso; first | omega | (revert h; decide) | exact h rfl)) | fail)
 refine ⟨Nat, fun xq => ⟨[(1, .bp 0 0), (3, I xq)], [(0, .box [L 2 (m.nodes.map encN), L 8 (m.lifts.map encL), L 7 (m.runs.map encU), L 1 (m.bases.map e1)])], 1⟩, fun xq => xq ≤ m.bases.length ∧ fe (baseE m) xq = 0, fun xq => m.bases.length - xq, ⟨0, ?_, [], ⟨⟨rfl, rfl⟩, ⟨rfl, rfl⟩, trivial⟩, ⟨⟨rfl, rfl, rfl⟩, trivial⟩, rfl, rfl, rfl⟩, ?_⟩
 · (try dsimp only); exact ⟨Nat.zero_le _, rfl⟩
 rintro k hk
 obtain ⟨hk, h0⟩ : k ≤ m.bases.length ∧ fe (baseE m) k = 0 := hk
 (try dsimp only)
 by_cases hkl : k < m.bases.length
 · obtain ⟨x, hx⟩ := getElem_some hkl
   have hE : baseE m k = if (nodeOf m x).isSome = false then 8 else 0 := by unfold baseE; rw [at_of hx]
   cases hb : nodeOf m x with
   | none =>
     rw [hb] at hE
     have hf := fe_hit hkl h0 (hE.trans (if_pos rfl)) (by decide)
     repeat' ((conv => whnf); first | (refine ⟨fun h => ?_, fun h => ?_⟩ <;> try (exfalso; first | omega | (revert h; decide) | exact h rfl)) | (refine ⟨by omega, fun r hrr => ?_⟩; first | ((have hre : r = e1 x := by (first | exact get_row hrr hx | fail)); subst hre)) | (refine ⟨_, rnode_h, (m, x), hm, leVs_of_eq rfl, .inl rfl, rfl, ?_⟩; show norm (foundT encN node0 (nodeOf m x)) _; rw [hb]; show norm (.tup [aN node0, B false]) _) | refine ⟨⟨by omega, by omega⟩, ?_⟩ | fail)
     all_goals (refine ⟨[], rfl, trivial, congrArg (CV.int .i64) ?_⟩; exact ((show basesE m = 8 by unfold basesE; rw [if_neg hz, if_pos (by rw [hf]; decide), hf])).symm)
   | some y =>
     rw [hb] at hE
     repeat' ((conv => whnf); first | (refine ⟨fun h => ?_, fun h => ?_⟩ <;> try (exfalso; first | omega | (revert h; decide) | exact h rfl)) | (refine ⟨by omega, fun r hrr => ?_⟩; first | ((have hre : r = e1 x := by (first | exact get_row hrr hx | fail)); subst hre)) | (refine ⟨_, rnode_h, (m, x), hm, leVs_of_eq rfl, .inl rfl, rfl, ?_⟩; show norm (foundT encN node0 (nodeOf m x)) _; rw [hb]; show norm (.tup [aN y, B true]) _) | (refine ⟨k + 1, ⟨?_, by (try dsimp only); omega⟩, [], ⟨⟨rfl, rfl⟩, ⟨rfl, rfl⟩, trivial⟩, ⟨⟨rfl, rfl, rfl⟩, trivial⟩, rfl, rfl, rfl⟩; (try dsimp only); exact ⟨by omega, fe_go h0 (hE.trans (if_neg (by simp)))⟩) | refine ⟨⟨by omega, by omega⟩, ?_⟩ | fail)
 · have hkn : k = m.bases.length := by omega
   subst hkn
   have hbe : basesE m = fe (incE m) m.bases.length := by unfold basesE; rw [if_neg hz, if_neg (Decidable.not_not.2 h0)]
   repeat' ((conv => whnf); first | (refine ⟨fun h => ?_, fun h => ?_⟩ <;> try (exfalso; first | omega | (revert h; decide) | exact h rfl)) | fail)
   refine ⟨Nat, fun xq => ⟨[(1, .bp 0 0), (6, I xq)], [(0, .box [L 2 (m.nodes.map encN), L 8 (m.lifts.map encL), L 7 (m.runs.map encU), L 1 (m.bases.map e1)])], 1⟩, fun xq => (1 ≤ xq ∧ xq ≤ m.bases.length) ∧ fe (incE m) xq = 0, fun xq => m.bases.length - xq, ⟨1, ?_, [], ⟨⟨rfl, rfl⟩, ⟨rfl, rfl⟩, trivial⟩, ⟨⟨rfl, rfl, rfl⟩, trivial⟩, rfl, rfl, rfl⟩, ?_⟩
   · (try dsimp only); exact ⟨⟨Nat.le_refl _, by omega⟩, fe_go rfl (if_neg (by omega))⟩
   rintro k hk
   obtain ⟨⟨hk1, hk⟩, h0⟩ : (1 ≤ k ∧ k ≤ m.bases.length) ∧ fe (incE m) k = 0 := hk
   (try dsimp only)
   by_cases hkl : k < m.bases.length
   · obtain ⟨x, hx⟩ := getElem_some hkl
     obtain ⟨y, hy⟩ := getElem_some (show k - 1 < m.bases.length by omega)
     have hE : incE m k = if 0 < k ∧ x ≤ y then 7 else 0 := by unfold incE; rw [at_of hx, at_of hy]
     by_cases hle : x ≤ y
     · repeat' ((conv => whnf); first | (refine ⟨fun h => ?_, fun h => ?_⟩ <;> try (exfalso; first | omega | (revert h; decide) | exact h rfl)) | (refine ⟨by omega, fun r hrr => ?_⟩; first | ((have hre : r = e1 x := by (first | exact get_row hrr hx | fail)); subst hre) | ((have hre : r = e1 y := by (first | exact get_rowi (j := k - 1) hrr (by omega) hy | fail)); subst hre)) | refine ⟨⟨by omega, by omega⟩, ?_⟩ | fail)
       all_goals (refine ⟨[], rfl, trivial, congrArg (CV.int .i64) ?_⟩; exact (hbe.trans (fe_hit hkl h0 (hE.trans (if_pos ⟨by omega, hle⟩)) (by decide))).symm)
     · repeat' ((conv => whnf); first | (refine ⟨fun h => ?_, fun h => ?_⟩ <;> try (exfalso; first | omega | (revert h; decide) | exact h rfl)) | (refine ⟨by omega, fun r hrr => ?_⟩; first | ((have hre : r = e1 x := by (first | exact get_row hrr hx | fail)); subst hre) | ((have hre : r = e1 y := by (first | exact get_rowi (j := k - 1) hrr (by omega) hy | fail)); subst hre)) | (refine ⟨k + 1, ⟨?_, by (try dsimp only); omega⟩, [], ⟨⟨rfl, rfl⟩, ⟨rfl, rfl⟩, trivial⟩, ⟨⟨rfl, rfl, rfl⟩, trivial⟩, rfl, rfl, rfl⟩; (try dsimp only); exact ⟨⟨by omega, by omega⟩, fe_go h0 (hE.trans (if_neg (by omega)))⟩) | refine ⟨⟨by omega, by omega⟩, ?_⟩ | fail)
   · have hkn : k = m.bases.length := by omega
     subst hkn
     repeat' ((conv => whnf); first | (refine ⟨fun h => ?_, fun h => ?_⟩ <;> try (exfalso; first | omega | (revert h; decide) | exact h rfl)) | fail)
     all_goals (refine ⟨[], rfl, trivial, congrArg (CV.int .i64) ?_⟩; exact (hbe.trans h0).symm)
theorem rbases_h : Holds Tryz.prog 21 rbasesS := holds_of mix Tryz.func21 rbasesLow (fun _ => rfl) rbasesV
theorem okM_of {m : Mp} (h : ¬ (64 < m.nodes.length ∨ 32 < m.lifts.length ∨ 64 < m.runs.length ∨ 64 < m.bases.length)) : okM m := ⟨⟨by omega, by omega⟩, by omega, by omega⟩
theorem rightM_lifts {m : Mp} (h : rightM m = 0) : (okM m ∧ m.lifts.length ≤ 32) ∧ ∀ x ∈ m.lifts, 1 ≤ x.op ∧ x.op ≤ 8 := by
 unfold rightM at h
 split at h
 · omega
 rename_i h1
 split at h
 · rename_i h2; exact absurd h h2
 split at h
 · rename_i h2; exact absurd h h2
 rename_i h2
 refine ⟨⟨okM_of h1, by omega⟩, fun x hx => ?_⟩
 obtain ⟨k, hk⟩ := List.getElem?_of_mem hx
 have hE := fe_all (Decidable.not_not.1 h2) k (List.getElem?_eq_some_iff.1 hk).1
 unfold liftE at hE
 rw [at_of hk] at hE
 split at hE
 · omega
 · rename_i h3
   exact (Decidable.not_not.1 h3).2.1
def rrightMIr : IFn := ⟨46, [.tmp 2], (zq [ zo 1 .box [0], zl 2 .mov [zi 0]] (.seq (zq [ zo 6 (.faddr 0) [1], zo 7 (.load 1 false) [6], zo 8 .len [7], zl 9 (.cmp .gtr) [.tmp 8, zi 64], zm 10 9, zg 11 (.faddr 1) [1] 10 false, zg 12 (.load 1 false) [11] 10 false, zg 13 .len [12] 10 false, zh 14 (.cmp .gtr) [.tmp 13, zi 32] 10 false, zl 15 .pick [.tmp 10, zv, .tmp 14], zm 16 15, zg 17 (.faddr 2) [1] 16 false, zg 18 (.load 1 false) [17] 16 false, zg 19 .len [18] 16 false, zh 20 (.cmp .gtr) [.tmp 19, zi 64] 16 false, zl 21 .pick [.tmp 16, zv, .tmp 20], zm 22 21, zg 23 (.faddr 3) [1] 22 false, zg 24 (.load 1 false) [23] 22
 false, zg 25 .len [24] 22 false, zh 26 (.cmp .gtr) [.tmp 25, zi 64] 22 false, zl 27 .pick [.tmp 22, zv, .tmp 26]] (.cond (.tmp 27) (zq [ zl 2 .mov [zi 4]] .ret) .skip)) (.seq (zq [ zo 28 (.faddr 0) [1], zo 29 (.load 1 false) [28], zo 30 (.call 18) [29], zm 3 30] (zq [ zm 31 3, zl 32 (.cmp .neq) [.tmp 31, zi 0]] (.cond (.tmp 32) (zq [ zm 33 3, zm 2 33] .ret) .skip))) (.seq (zq [ zo 34 (.load 4 true) [1], zo 35 (.call 19) [34], zm 4 35] (zq [ zm 36 4, zl 37 (.cmp .neq) [.tmp 36, zi 0]] (.cond (.tmp 37) (zq [ zm 38 4, zm 2 38] .ret) .skip))) (.seq (zq [ zo 39 (.load 4 true) [1], zo 40 (.call 20)
 [39], zm 5 40] (zq [ zm 41 5, zl 42 (.cmp .neq) [.tmp 41, zi 0]] (.cond (.tmp 42) (zq [ zm 43 5, zm 2 43] .ret) .skip))) (zq [ zo 44 (.load 4 true) [1], zo 45 (.call 21) [44], zm 2 45] .ret))))))⟩
theorem rrightMLow : lowF Tryz.prog {} Tryz.f5 = some rrightMIr := by kernel_rfl
def rrightMS : Spec := spec Mp (fun m => [aM m]) okM (fun m => I (rightM m))
theorem rrightMV : fnV Tryz.prog rrightMIr rrightMS := by
 intro (m : Mp) (hm : okM m)
 have hl1 : (m.nodes.map encN).length = m.nodes.length := List.length_map ..
 have hl2 : (m.lifts.map encL).length = m.lifts.length := List.length_map ..
 have hl3 : (m.runs.map encU).length = m.runs.length := List.length_map ..
 have hl4 : (m.bases.map e1).length = m.bases.length := List.length_map ..
 show vc _ _ _ _ ⟨argEnv 0 [aM m], [], 0⟩
 by_cases hb : 64 < m.nodes.length ∨ 32 < m.lifts.length ∨ 64 < m.runs.length ∨ 64 < m.bases.length
 · repeat' ((conv => whnf); first | (refine ⟨fun h => ?_, fun h => ?_⟩ <;> try (exfalso; first | omega | (revert h; decide) | exact h rfl)) | fail)
   all_goals (refine ⟨[], rfl, trivial, congrArg (CV.int .i64) ?_⟩; exact ((show rightM m = 4 from if_pos hb)).symm)
 have hR : rightM m = if fe (nodeE m.nodes) m.nodes.length ≠ 0 then fe (nodeE m.nodes) m.nodes.length else if fe (liftE m) m.lifts.length ≠ 0 then fe (liftE m) m.lifts.length else if fe (runE m) m.runs.length ≠ 0 then fe (runE m) m.runs.length else basesE m := if_neg hb
 generalize ha : fe (nodeE m.nodes) m.nodes.length = a at hR
 generalize hc : fe (liftE m) m.lifts.length = c at hR
 generalize hd : fe (runE m) m.runs.length = d at hR
 by_cases h1 : a = 0
 · rw [if_neg (Decidable.not_not.2 h1)] at hR
   by_cases h2 : c = 0
   · rw [if_neg (Decidable.not_not.2 h2)] at hR
     by_cases h3 : d = 0
     · rw [if_neg (Decidable.not_not.2 h3)] at hR
       repeat' ((conv => whnf); first | (refine ⟨fun h => ?_, fun h => ?_⟩ <;> try (exfalso; first | omega | (revert h; decide) | exact h rfl)) | (refine ⟨_, rnodes_h, m.nodes, hm.1.1, leVs_of_eq rfl, .inl rfl, rfl, ?_⟩; show norm (I (fe (nodeE m.nodes) m.nodes.length)) _; rw [ha]) | (refine ⟨_, rlifts_h, m, hm, leVs_of_eq rfl, .inl rfl, rfl, ?_⟩; show norm (I (fe (liftE m) m.lifts.length)) _; rw [hc]) | (refine ⟨_, rruns_h, m, hm, leVs_of_eq rfl, .inl rfl, rfl, ?_⟩; show norm (I (fe (runE m) m.runs.length)) _; rw [hd]) | (refine ⟨_, rbases_h, m, hm, leVs_of_eq rfl, .inl rfl, rfl, ?_⟩; show norm (I (basesE m)) _) | fail)
       all_goals (refine ⟨[], rfl, trivial, congrArg (CV.int .i64) ?_⟩; exact (hR).symm)
     · rw [if_pos h3] at hR
       repeat' ((conv => whnf); first | (refine ⟨fun h => ?_, fun h => ?_⟩ <;> try (exfalso; first | omega | (revert h; decide) | exact h rfl)) | (refine ⟨_, rnodes_h, m.nodes, hm.1.1, leVs_of_eq rfl, .inl rfl, rfl, ?_⟩; show norm (I (fe (nodeE m.nodes) m.nodes.length)) _; rw [ha]) | (refine ⟨_, rlifts_h, m, hm, leVs_of_eq rfl, .inl rfl, rfl, ?_⟩; show norm (I (fe (liftE m) m.lifts.length)) _; rw [hc]) | (refine ⟨_, rruns_h, m, hm, leVs_of_eq rfl, .inl rfl, rfl, ?_⟩; show norm (I (fe (runE m) m.runs.length)) _; rw [hd]) | fail)
       all_goals (refine ⟨[], rfl, trivial, congrArg (CV.int .i64) ?_⟩; exact (hR).symm)
   · rw [if_pos h2] at hR
     repeat' ((conv => whnf); first | (refine ⟨fun h => ?_, fun h => ?_⟩ <;> try (exfalso; first | omega | (revert h; decide) | exact h rfl)) | (refine ⟨_, rnodes_h, m.nodes, hm.1.1, leVs_of_eq rfl, .inl rfl, rfl, ?_⟩; show norm (I (fe (nodeE m.nodes) m.nodes.length)) _; rw [ha]) | (refine ⟨_, rlifts_h, m, hm, leVs_of_eq rfl, .inl rfl, rfl, ?_⟩; show norm (I (fe (liftE m) m.lifts.length)) _; rw [hc]) | fail)
     all_goals (refine ⟨[], rfl, trivial, congrArg (CV.int .i64) ?_⟩; exact (hR).symm)
 · rw [if_pos h1] at hR
   repeat' ((conv => whnf); first | (refine ⟨fun h => ?_, fun h => ?_⟩ <;> try (exfalso; first | omega | (revert h; decide) | exact h rfl)) | (refine ⟨_, rnodes_h, m.nodes, hm.1.1, leVs_of_eq rfl, .inl rfl, rfl, ?_⟩; show norm (I (fe (nodeE m.nodes) m.nodes.length)) _; rw [ha]) | fail)
   all_goals (refine ⟨[], rfl, trivial, congrArg (CV.int .i64) ?_⟩; exact (hR).symm)
theorem rrightM_h : Holds Tryz.prog 5 rrightMS := holds_of mix Tryz.func5 rrightMLow (fun _ => rfl) rrightMV
end Go.Proofs.YtjpdaapjnpdiiaaGreat
