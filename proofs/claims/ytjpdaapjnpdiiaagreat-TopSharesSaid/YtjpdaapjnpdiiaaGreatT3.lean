/- A part of the proof. -/
import Derived.Test.YtjpdaapjnpdiiaaGreatT2
namespace Go.Proofs.YtjpdaapjnpdiiaaGreat
open Go.RowKit
def rinIr : IFn := ⟨15, [.tmp 6], (zq [ zl 6 .mov [zf]] (zq [ zm 7 0, zm 8 1, zo 9 (.cmp .geq) [7, 8], zm 10 9, zw 11 0 10 true, zw 12 2 10 true, zg 13 (.cmp .leq) [11, 12] 10 true, zl 14 .pick [.tmp 10, .tmp 13, zf], zm 6 14] .ret))⟩
theorem rinLow : lowF Tryz.prog {} Tryz.f51 = some rinIr := by kernel_rfl
def rinS : Spec := spec (Int × Int × Int) (fun p => [I p.1, I p.2.1, I p.2.2]) (fun _ => True) (fun p => B (decide (within p.1 p.2.1 p.2.2)))
theorem rinV : fnV Tryz.prog rinIr rinS := by
 intro ⟨(n : Int), (a : Int), (b : Int)⟩ hx
 show vc _ _ _ _ ⟨argEnv 0 [I n, I a, I b], [], 0⟩
 by_cases h1 : a ≤ n
 · by_cases h2 : n ≤ b
   · repeat' ((conv => whnf); first | (refine ⟨fun h => ?_, fun h => ?_⟩ <;> try (exfalso; first | omega | (revert h; decide) | exact h rfl)) | refine ⟨[], rfl, trivial, congrArg CV.bool ?_⟩ | fail)
     all_goals exact (decide_eq_true (show within n a b from ⟨h1, h2⟩)).symm
   · repeat' ((conv => whnf); first | (refine ⟨fun h => ?_, fun h => ?_⟩ <;> try (exfalso; first | omega | (revert h; decide) | exact h rfl)) | refine ⟨[], rfl, trivial, congrArg CV.bool ?_⟩ | fail)
     all_goals exact (decide_eq_false fun (h : within n a b) => h2 h.2).symm
 · repeat' ((conv => whnf); first | (refine ⟨fun h => ?_, fun h => ?_⟩ <;> try (exfalso; first | omega | (revert h; decide) | exact h rfl)) | refine ⟨[], rfl, trivial, congrArg CV.bool ?_⟩ | fail)
   all_goals exact (decide_eq_false fun (h : within n a b) => h1 h.1).symm
theorem rin_h : Holds Tryz.prog 51 rinS := holds_of mix Tryz.func51 rinLow (fun _ => rfl) rinV
def sinIr : IFn := ⟨15, [.tmp 6], (zq [ zl 6 .mov [zf]] (zq [ zm 7 0, zm 8 1, zo 9 (.cmp .geq) [7, 8], zm 10 9, zw 11 0 10 true, zw 12 2 10 true, zg 13 (.cmp .leq) [11, 12] 10 true, zl 14 .pick [.tmp 10, .tmp 13, zf], zm 6 14] .ret))⟩
theorem sinLow : lowF Tryz.prog {} Tryz.f25 = some sinIr := by kernel_rfl
def sinS : Spec := spec (Int × Int × Int) (fun p => [I p.1, I p.2.1, I p.2.2]) (fun _ => True) (fun p => B (decide (within p.1 p.2.1 p.2.2)))
theorem sinV : fnV Tryz.prog sinIr sinS := by
 intro ⟨(n : Int), (a : Int), (b : Int)⟩ hx
 show vc _ _ _ _ ⟨argEnv 0 [I n, I a, I b], [], 0⟩
 by_cases h1 : a ≤ n
 · by_cases h2 : n ≤ b
   · repeat' ((conv => whnf); first | (refine ⟨fun h => ?_, fun h => ?_⟩ <;> try (exfalso; first | omega | (revert h; decide) | exact h rfl)) | refine ⟨[], rfl, trivial, congrArg CV.bool ?_⟩ | fail)
     all_goals exact (decide_eq_true (show within n a b from ⟨h1, h2⟩)).symm
   · repeat' ((conv => whnf); first | (refine ⟨fun h => ?_, fun h => ?_⟩ <;> try (exfalso; first | omega | (revert h; decide) | exact h rfl)) | refine ⟨[], rfl, trivial, congrArg CV.bool ?_⟩ | fail)
     all_goals exact (decide_eq_false fun (h : within n a b) => h2 h.2).symm
 · repeat' ((conv => whnf); first | (refine ⟨fun h => ?_, fun h => ?_⟩ <;> try (exfalso; first | omega | (revert h; decide) | exact h rfl)) | refine ⟨[], rfl, trivial, congrArg CV.bool ?_⟩ | fail)
   all_goals exact (decide_eq_false fun (h : within n a b) => h1 h.1).symm
theorem sin_h : Holds Tryz.prog 25 sinS := holds_of mix Tryz.func25 sinLow (fun _ => rfl) sinV
def rnodesIr : IFn := ⟨42, [.tmp 2], (zq [ zl 2 .mov [zi 0]] (.seq (zq [ zl 3 .mov [zi 0]] (.block 0 (.loop (.seq (zq [ zm 4 3, zm 5 0, zo 6 .len [5], zo 7 (.cmp .lss) [4, 6]] (.cond (.tmp 7) .skip (.exit 0))) (.seq (.block 1 (.seq (zq [ zm 10 0, zm 11 3, zo 12 (.idx 2) [10, 11], zo 13 (.faddr 0) [12], zo 14 (.load 1 false) [13], zl 15 (.call 51) [.tmp 14, zi 1, zi 9999], zo 16 .not [15], zm 17 16, zw 18 0 17 false, zw 19 3 17 false, zg 20 (.idx 2) [18, 19] 17 false, zg 21 (.faddr 1) [20] 17 false, zg 22 (.load 1 false) [21] 17 false, zh 23 (.call 51) [.tmp 22, zi 0, zi 5000] 17 false, zg 24 .not [23] 17 false, zl
 25 .pick [.tmp 17, zv, .tmp 24]] (.cond (.tmp 25) (zq [ zl 2 .mov [zi 2]] .ret) .skip)) (.seq (.ops [ zm 26 3, zl 27 (.cmp .gtr) [.tmp 26, zi 0], zm 28 27, zw 29 0 28 true, zw 30 3 28 true, zg 31 (.idx 2) [29, 30] 28 true, zg 32 (.faddr 0) [31] 28 true, zg 33 (.load 1 false) [32] 28 true, zw 34 0 28 true, zw 35 3 28 true, zh 36 (.bin .sub .i64 false) [.tmp 35, zi 1] 28 true, zg 37 (.idx 2) [34, 36] 28 true, zg 38 (.faddr 0) [37] 28 true, zg 39 (.load 1 false) [38] 28 true, zg 40 (.cmp .leq) [33, 39] 28 true, zl 41 .pick [.tmp 28, .tmp 40, zf]] true) (.cond (.tmp 41) (zq [ zl 2 .mov [zi 7]]
 .ret) .skip)))) (zp [ zm 8 3, zl 9 (.bin .add .i64 false) [.tmp 8, zi 1], zm 3 9])))))) (zq [ zl 2 .mov [zi 0]] .ret)))⟩
theorem rnodesLow : lowF Tryz.prog {} Tryz.f18 = some rnodesIr := by kernel_rfl
def rnodesS : Spec := spec (List Node) (fun l => [L 2 (l.map encN)]) (fun l => l.length ≤ 9223372036854775807) (fun l => I (fe (nodeE l) l.length))
theorem rnodesV : fnV Tryz.prog rnodesIr rnodesS := by
 intro (l : List Node) hx
 replace hx : l.length ≤ 9223372036854775807 := hx
 have hl : (l.map encN).length = l.length := List.length_map ..
 show vc _ _ _ _ ⟨argEnv 0 [L 2 (l.map encN)], [], 0⟩
 conv => whnf
 refine ⟨Nat, fun xq => ⟨[(0, L 2 (l.map encN)), (3, I xq)], [], 0⟩, fun xq => xq ≤ l.length ∧ fe (nodeE l) xq = 0, fun xq => l.length - xq, ⟨0, ?_, [], ⟨⟨rfl, rfl⟩, ⟨rfl, rfl⟩, trivial⟩, trivial, rfl, rfl, rfl⟩, ?_⟩
 · (try dsimp only); exact ⟨Nat.zero_le _, rfl⟩
 rintro k hk
 obtain ⟨hk, h0⟩ : k ≤ l.length ∧ fe (nodeE l) k = 0 := hk
 (try dsimp only)
 by_cases hkl : k < l.length
 · obtain ⟨x, hx⟩ := getElem_some hkl
   have hE : nodeE l k = if ¬ (within x.id 1 9999 ∧ within x.alt 0 5000) then 2 else if 0 < k ∧ x.id ≤ (at_ l node0 (k - 1)).id then 7 else 0 := by unfold nodeE; rw [at_of hx]
   cases d0 : decide (within x.id 1 9999) with
   | false =>
     repeat' ((conv => whnf); first | (refine ⟨fun h => ?_, fun h => ?_⟩ <;> try (exfalso; first | omega | (revert h; decide) | exact h rfl)) | (refine ⟨by omega, fun r hrr => ?_⟩; first | ((have hre : r = encN x := by (first | exact get_row hrr hx | fail)); subst hre)) | (refine ⟨_, rin_h, (x.id, 1, 9999), trivial, leVs_of_eq rfl, .inl rfl, rfl, ?_⟩; show norm (B (decide (within (x.id) 1 9999))) _; rw [d0]) | fail)
     all_goals (refine ⟨[], rfl, trivial, congrArg (CV.int .i64) ?_⟩; exact (fe_hit hkl h0 (hE.trans (if_pos fun h => of_decide_eq_false d0 h.1)) (by decide)).symm)
   | true =>
     cases d1 : decide (within x.alt 0 5000) with
     | false =>
       repeat' ((conv => whnf); first | (refine ⟨fun h => ?_, fun h => ?_⟩ <;> try (exfalso; first | omega | (revert h; decide) | exact h rfl)) | (refine ⟨by omega, fun r hrr => ?_⟩; first | ((have hre : r = encN x := by (first | exact get_row hrr hx | fail)); subst hre)) | (refine ⟨_, rin_h, (x.id, 1, 9999), trivial, leVs_of_eq rfl, .inl rfl, rfl, ?_⟩; show norm (B (decide (within (x.id) 1 9999))) _; rw [d0]) | (refine ⟨_, rin_h, (x.alt, 0, 5000), trivial, leVs_of_eq rfl, .inl rfl, rfl, ?_⟩; show norm (B (decide (within (x.alt) 0 5000))) _; rw [d1]) | fail)
       all_goals (refine ⟨[], rfl, trivial, congrArg (CV.int .i64) ?_⟩; exact (fe_hit hkl h0 (hE.trans (if_pos fun h => of_decide_eq_false d1 h.2)) (by decide)).symm)
     | true =>
       have hc : within x.id 1 9999 ∧ within x.alt 0 5000 := ⟨of_decide_eq_true d0, of_decide_eq_true d1⟩
       rw [if_neg (Decidable.not_not.2 hc)] at hE
       by_cases hk0 : k = 0
       · subst hk0
         repeat' ((conv => whnf); first | (refine ⟨fun h => ?_, fun h => ?_⟩ <;> try (exfalso; first | omega | (revert h; decide) | exact h rfl)) | (refine ⟨by omega, fun r hrr => ?_⟩; first | ((have hre : r = encN x := by (first | exact get_row hrr hx | fail)); subst hre)) | (refine ⟨_, rin_h, (x.id, 1, 9999), trivial, leVs_of_eq rfl, .inl rfl, rfl, ?_⟩; show norm (B (decide (within (x.id) 1 9999))) _; rw [d0]) | (refine ⟨_, rin_h, (x.alt, 0, 5000), trivial, leVs_of_eq rfl, .inl rfl, rfl, ?_⟩; show norm (B (decide (within (x.alt) 0 5000))) _; rw [d1]) | (refine ⟨_ + 1, ⟨?_, by (try dsimp only); omega⟩, [], ⟨⟨rfl, rfl⟩, ⟨rfl, rfl⟩, trivial⟩, trivial, rfl, rfl, rfl⟩; (try dsimp only); exact ⟨by omega, fe_go h0 (hE.trans (if_neg (by omega)))⟩) | refine ⟨⟨by omega, by omega⟩, ?_⟩ | fail)
       · obtain ⟨y, hy⟩ := getElem_some (show k - 1 < l.length by omega)
         rw [at_of hy] at hE
         by_cases hle : x.id ≤ y.id
         · repeat' ((conv => whnf); first | (refine ⟨fun h => ?_, fun h => ?_⟩ <;> try (exfalso; first | omega | (revert h; decide) | exact h rfl)) | (refine ⟨by omega, fun r hrr => ?_⟩; first | ((have hre : r = encN x := by (first | exact get_row hrr hx | fail)); subst hre) | ((have hre : r = encN y := by (first | exact get_rowi (j := k - 1) hrr (by omega) hy | fail)); subst hre)) | (refine ⟨_, rin_h, (x.id, 1, 9999), trivial, leVs_of_eq rfl, .inl rfl, rfl, ?_⟩; show norm (B (decide (within (x.id) 1 9999))) _; rw [d0]) | (refine ⟨_, rin_h, (x.alt, 0, 5000), trivial, leVs_of_eq rfl, .inl rfl, rfl, ?_⟩; show norm (B (decide (within (x.alt) 0 5000))) _; rw [d1]) | refine ⟨⟨by omega, by omega⟩, ?_⟩ | fail)
           all_goals (refine ⟨[], rfl, trivial, congrArg (CV.int .i64) ?_⟩; exact (fe_hit hkl h0 (hE.trans (if_pos ⟨by omega, hle⟩)) (by decide)).symm)
         · repeat' ((conv => whnf); first | (refine ⟨fun h => ?_, fun h => ?_⟩ <;> try (exfalso; first | omega | (revert h; decide) | exact h rfl)) | (refine ⟨by omega, fun r hrr => ?_⟩; first | ((have hre : r = encN x := by (first | exact get_row hrr hx | fail)); subst hre) | ((have hre : r = encN y := by (first | exact get_rowi (j := k - 1) hrr (by omega) hy | fail)); subst hre)) | (refine ⟨_, rin_h, (x.id, 1, 9999), trivial, leVs_of_eq rfl, .inl rfl, rfl, ?_⟩; show norm (B (decide (within (x.id) 1 9999))) _; rw [d0]) | (refine ⟨_, rin_h, (x.alt, 0, 5000), trivial, leVs_of_eq rfl, .inl rfl, rfl, ?_⟩; show norm (B (decide (within (x.alt) 0 5000))) _; rw [d1]) | (refine ⟨k + 1, ⟨?_, by (try dsimp only); omega⟩, [], ⟨⟨rfl, rfl⟩, ⟨rfl, rfl⟩, trivial⟩, trivial, rfl, rfl, rfl⟩; (try dsimp only); exact ⟨by omega, fe_go h0 (hE.trans (if_neg (by omega)))⟩) | refine ⟨⟨by omega, by omega⟩, ?_⟩ | fail)
 · have hkn : k = l.length := by omega
   subst hkn
   repeat' ((conv => whnf); first | (refine ⟨fun h => ?_, fun h => ?_⟩ <;> try (exfalso; first | omega | (revert h; decide) | exact h rfl)) | fail)
   all_goals (refine ⟨[], rfl, trivial, congrArg (CV.int .i64) ?_⟩; exact (h0).symm)
theorem rnodes_h : Holds Tryz.prog 18 rnodesS := holds_of mix Tryz.func18 rnodesLow (fun _ => rfl) rnodesV
def rrisesIr : IFn := ⟨34, [.tmp 6], (zq [ zo 3 .box [0], zl 6 .mov [zi 0]] (zq [ zo 12 (.load 4 true) [3], zm 13 1, zo 14 (.call 54) [12, 13], zm 11 14, zo 15 (.extract 0) [11], zo 16 (.extract 1) [11], zo 7 (.alloc [.int .i64 0, .int .i64 0]) [], zn (.store 2) [7, 15], zm 8 16] (zq [ zo 18 (.load 4 true) [3], zm 19 2, zo 20 (.call 54) [18, 19], zm 17 20, zo 21 (.extract 0) [17], zo 22 (.extract 1) [17], zo 9 (.alloc [.int .i64 0, .int .i64 0]) [], zn (.store 2) [9, 21], zm 10 22] (.seq (zq [ zm 23 8, zo 24 .not [23], zm 25 24, zw 26 10 25 false, zg 27 .not [26] 25 false, zl 28 .pick [.tmp 25, zv, .tmp 27]] (.cond
 (.tmp 28) (zq [ zl 6 .mov [zi 8]] .ret) .skip)) (.seq (zq [ zo 29 (.faddr 1) [9], zo 30 (.load 1 false) [29], zo 31 (.faddr 1) [7], zo 32 (.load 1 false) [31], zo 33 (.cmp .leq) [30, 32]] (.cond (.tmp 33) (zq [ zl 6 .mov [zi 11]] .ret) .skip)) (zq [ zl 6 .mov [zi 0]] .ret))))))⟩
theorem rrisesLow : lowF Tryz.prog {} Tryz.f52 = some rrisesIr := by kernel_rfl
def rrisesS : Spec := spec (Mp × Int × Int) (fun p => [aM p.1, I p.2.1, I p.2.2]) (fun p => okM p.1) (fun p => I (risesE p.1 p.2.1 p.2.2))
theorem rrisesV : fnV Tryz.prog rrisesIr rrisesS := by
 intro ⟨(m : Mp), (f : Int), (t : Int)⟩ hm
 replace hm : okM m := hm
 show vc _ _ _ _ ⟨argEnv 0 [aM m, I f, I t], [], 0⟩
 have hR : risesE m f t = if (nodeOf m f).isSome = false ∨ (nodeOf m t).isSome = false then 8 else if ((nodeOf m t).getD node0).alt ≤ ((nodeOf m f).getD node0).alt then 11 else 0 := rfl
 cases ha : nodeOf m f with
 | none =>
   rw [ha] at hR
   cases hb : nodeOf m t with
   | none => repeat' ((conv => whnf); first | (refine ⟨fun h => ?_, fun h => ?_⟩ <;> try (exfalso; first | omega | (revert h; decide) | exact h rfl)) | (refine ⟨_, rnode_h, (m, f), hm, leVs_of_eq rfl, .inl rfl, rfl, ?_⟩; show norm (foundT encN node0 (nodeOf m f)) _; rw [ha]; show norm (.tup [aN node0, B false]) _) | (refine ⟨_, rnode_h, (m, t), hm, leVs_of_eq rfl, .inl rfl, rfl, ?_⟩; show norm (foundT encN node0 (nodeOf m t)) _; rw [hb]; show norm (.tup [aN node0, B false]) _) | fail)
             all_goals (refine ⟨[], rfl, trivial, congrArg (CV.int .i64) ?_⟩; exact (hR.trans (if_pos (.inl rfl))).symm)
   | some y => repeat' ((conv => whnf); first | (refine ⟨fun h => ?_, fun h => ?_⟩ <;> try (exfalso; first | omega | (revert h; decide) | exact h rfl)) | (refine ⟨_, rnode_h, (m, f), hm, leVs_of_eq rfl, .inl rfl, rfl, ?_⟩; show norm (foundT encN node0 (nodeOf m f)) _; rw [ha]; show norm (.tup [aN node0, B false]) _) | (refine ⟨_, rnode_h, (m, t), hm, leVs_of_eq rfl, .inl rfl, rfl, ?_⟩; show norm (foundT encN node0 (nodeOf m t)) _; rw [hb]; show norm (.tup [aN y, B true]) _) | fail)
               all_goals (refine ⟨[], rfl, trivial, congrArg (CV.int .i64) ?_⟩; exact (hR.trans (if_pos (.inl rfl))).symm)
 | some x =>
   cases hb : nodeOf m t with
   | none =>
     rw [ha, hb] at hR
     repeat' ((conv => whnf); first | (refine ⟨fun h => ?_, fun h => ?_⟩ <;> try (exfalso; first | omega | (revert h; decide) | exact h rfl)) | (refine ⟨_, rnode_h, (m, f), hm, leVs_of_eq rfl, .inl rfl, rfl, ?_⟩; show norm (foundT encN node0 (nodeOf m f)) _; rw [ha]; show norm (.tup [aN x, B true]) _) | (refine ⟨_, rnode_h, (m, t), hm, leVs_of_eq rfl, .inl rfl, rfl, ?_⟩; show norm (foundT encN node0 (nodeOf m t)) _; rw [hb]; show norm (.tup [aN node0, B false]) _) | fail)
     all_goals (refine ⟨[], rfl, trivial, congrArg (CV.int .i64) ?_⟩; exact (hR.trans (if_pos (.inr rfl))).symm)
   | some y =>
     rw [ha, hb] at hR
     replace hR : risesE m f t = if y.alt ≤ x.alt then 11 else 0 := hR.trans (if_neg (by simp))
     by_cases hle : y.alt ≤ x.alt
     · repeat' ((conv => whnf); first | (refine ⟨fun h => ?_, fun h => ?_⟩ <;> try (exfalso; first | omega | (revert h; decide) | exact h rfl)) | (refine ⟨_, rnode_h, (m, f), hm, leVs_of_eq rfl, .inl rfl, rfl, ?_⟩; show norm (foundT encN node0 (nodeOf m f)) _; rw [ha]; show norm (.tup [aN x, B true]) _) | (refine ⟨_, rnode_h, (m, t), hm, leVs_of_eq rfl, .inl rfl, rfl, ?_⟩; show norm (foundT encN node0 (nodeOf m t)) _; rw [hb]; show norm (.tup [aN y, B true]) _) | fail)
       all_goals (refine ⟨[], rfl, trivial, congrArg (CV.int .i64) ?_⟩; exact (hR.trans (if_pos hle)).symm)
     · repeat' ((conv => whnf); first | (refine ⟨fun h => ?_, fun h => ?_⟩ <;> try (exfalso; first | omega | (revert h; decide) | exact h rfl)) | (refine ⟨_, rnode_h, (m, f), hm, leVs_of_eq rfl, .inl rfl, rfl, ?_⟩; show norm (foundT encN node0 (nodeOf m f)) _; rw [ha]; show norm (.tup [aN x, B true]) _) | (refine ⟨_, rnode_h, (m, t), hm, leVs_of_eq rfl, .inl rfl, rfl, ?_⟩; show norm (foundT encN node0 (nodeOf m t)) _; rw [hb]; show norm (.tup [aN y, B true]) _) | fail)
       all_goals (refine ⟨[], rfl, trivial, congrArg (CV.int .i64) ?_⟩; exact (hR.trans (if_neg hle)).symm)
theorem rrises_h : Holds Tryz.prog 52 rrisesS := holds_of mix Tryz.func52 rrisesLow (fun _ => rfl) rrisesV
def rcarrIr : IFn := ⟨19, [.tmp 2], (zq [ zo 1 .box [0], zl 2 .mov [zf]] (zq [ zo 3 (.faddr 4) [1], zo 4 (.load 1 false) [3], zl 5 (.bin .mul .i64 false) [zi 2, .tmp 4], zo 6 (.faddr 7) [1], zo 7 (.load 1 false) [6], zo 8 (.bin .rem .i64 false) [5, 7], zl 9 (.cmp .eql) [.tmp 8, zi 0], zm 10 9, zg 11 (.faddr 4) [1] 10 true, zg 12 (.load 1 false) [11] 10 true, zh 13 (.bin .mul .i64 false) [zi 2, .tmp 12] 10 true, zg 14 (.faddr 7) [1] 10 true, zg 15 (.load 1 false) [14] 10 true, zg 16 (.bin .quo .i64 false) [13, 15] 10 true, zh 17 (.call 51) [.tmp 16, zi 1, zi 200] 10 true, zl 18 .pick [.tmp 10, .tmp 17, zf], zm 2 18]
 .ret))⟩
theorem rcarrLow : lowF Tryz.prog {} Tryz.f53 = some rcarrIr := by kernel_rfl
def rcarrS : Spec := spec Lift (fun x => [aL x]) (fun x => (10 ≤ x.len ∧ x.len ≤ 6000) ∧ 5 ≤ x.sp ∧ x.sp ≤ 1000) (fun x => B (decide (carrP x)))
theorem rcarrV : fnV Tryz.prog rcarrIr rcarrS := by
 intro (x : Lift) hx
 obtain ⟨⟨l0, l1⟩, s0, s1⟩ : (10 ≤ x.len ∧ x.len ≤ 6000) ∧ 5 ≤ x.sp ∧ x.sp ≤ 1000 := hx
 show vc _ _ _ _ ⟨argEnv 0 [aL x], [], 0⟩
 have hq0 : 0 ≤ (2 * x.len).tdiv x.sp := Int.tdiv_nonneg (by omega) (by omega)
 have hq1 : (2 * x.len).tdiv x.sp ≤ 12000 := by rw [Int.tdiv_eq_ediv_of_nonneg (by omega)]; have := Int.ediv_le_self x.sp (show 0 ≤ 2 * x.len by omega); omega
 cases hd : decide (within ((2 * x.len).tdiv x.sp) 1 200) with
 | false =>
   repeat' ((conv => whnf); first | (refine ⟨fun h => ?_, fun h => ?_⟩ <;> try (exfalso; first | omega | (revert h; decide) | exact h rfl)) | (refine ⟨_, rin_h, ((2 * x.len).tdiv x.sp, 1, 200), trivial, leVs_of_eq rfl, .inl rfl, rfl, ?_⟩; show norm (B (decide (within ((2 * x.len).tdiv x.sp) 1 200))) _; rw [hd]) | (refine ⟨⟨by omega, by omega, by omega⟩, ?_⟩) | (refine ⟨by omega, ?_⟩) | refine ⟨⟨by omega, by omega⟩, ?_⟩ | refine ⟨[], rfl, trivial, congrArg CV.bool ?_⟩ | fail)
   all_goals exact (decide_eq_false fun (h : carrP x) => of_decide_eq_false hd h.2).symm
 | true =>
   by_cases h0 : (2 * x.len).tmod x.sp = 0
   · repeat' ((conv => whnf); first | (refine ⟨fun h => ?_, fun h => ?_⟩ <;> try (exfalso; first | omega | (revert h; decide) | exact h rfl)) | (refine ⟨_, rin_h, ((2 * x.len).tdiv x.sp, 1, 200), trivial, leVs_of_eq rfl, .inl rfl, rfl, ?_⟩; show norm (B (decide (within ((2 * x.len).tdiv x.sp) 1 200))) _; rw [hd]) | (refine ⟨⟨by omega, by omega, by omega⟩, ?_⟩) | (refine ⟨by omega, ?_⟩) | refine ⟨⟨by omega, by omega⟩, ?_⟩ | refine ⟨[], rfl, trivial, congrArg CV.bool ?_⟩ | fail)
     all_goals exact (decide_eq_true (show carrP x from ⟨h0, of_decide_eq_true hd⟩)).symm
   · repeat' ((conv => whnf); first | (refine ⟨fun h => ?_, fun h => ?_⟩ <;> try (exfalso; first | omega | (revert h; decide) | exact h rfl)) | (refine ⟨_, rin_h, ((2 * x.len).tdiv x.sp, 1, 200), trivial, leVs_of_eq rfl, .inl rfl, rfl, ?_⟩; show norm (B (decide (within ((2 * x.len).tdiv x.sp) 1 200))) _; rw [hd]) | (refine ⟨⟨by omega, by omega, by omega⟩, ?_⟩) | (refine ⟨by omega, ?_⟩) | refine ⟨⟨by omega, by omega⟩, ?_⟩ | refine ⟨[], rfl, trivial, congrArg CV.bool ?_⟩ | fail)
     all_goals exact (decide_eq_false fun (h : carrP x) => h0 h.1).symm
theorem rcarr_h : Holds Tryz.prog 53 rcarrS := holds_of mix Tryz.func53 rcarrLow (fun _ => rfl) rcarrV
end Go.Proofs.YtjpdaapjnpdiiaaGreat
