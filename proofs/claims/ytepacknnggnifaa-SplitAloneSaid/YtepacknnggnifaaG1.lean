/- Split: the examples hold. -/
import Derived.Test.YtepacknnggnifaaFO
import Derived.Test.YtepacknnggnifaaFM
import Derived.Test.YtepacknnggnifaaFA
import Derived.Test.YtepacknnggnifaaFF
namespace Go.Proofs.Ytepacknnggnifaa
open Go.RowKit
theorem spl_of {a : Int} {ws R P : List Int} (hc : chkF a ws = 0) (hs : R.Perm (idxL ws.length) ∧ R.Pairwise (bef (keyR (rL a ws)))) (hP : incs (qL a ws) (R.take (leftN a ws)) = P) : splT a ws = .tup [L 1 (P.map e1), I 0] := by
  have h1 := ordL_sorted (rL a ws)
  rw [rL_len] at h1
  unfold splT
  rw [if_pos hc, hc, partsL, sorted_uniq h1 hs, hP]
theorem ev1 : splT 100 [1, 1, 1] = .tup [L 1 ([34, 33, 33].map e1), I 0] := spl_of (R := [0, 1, 2]) (by decide +kernel) (by decide +kernel) (by decide +kernel)
theorem ev2 : splT 100 [1, 2, 4] = .tup [L 1 ([14, 29, 57].map e1), I 0] := spl_of (R := [1, 0, 2]) (by decide +kernel) (by decide +kernel) (by decide +kernel)
theorem ev3 : splT 0 [0, 5] = .tup [L 1 ([0, 0].map e1), I 0] := spl_of (R := [0, 1]) (by decide +kernel) (by decide +kernel) (by decide +kernel)
theorem ev4 : splT 5 [0, 0] = .tup [L 1 [], I 1] := by
  unfold splT
  rw [show chkF 5 [0, 0] = 1 from by decide +kernel, if_neg (by decide)]; rfl
theorem ev5 : evT 7 3 = .tup [L 1 ([3, 2, 2].map e1), I 0] := by
  unfold evT
  rw [show evErr 7 3 = 0 from by decide +kernel, if_pos rfl, show evenL 7 3 (3 : Int).toNat = [3, 2, 2] from by decide +kernel]
def xA : List Share := [⟨2, 5⟩, ⟨1, 3⟩]
def xB : List Share := [⟨2, -5⟩, ⟨4, 1⟩]
def xC : List Share := [⟨1, 3⟩, ⟨4, 1⟩]
theorem ev6 : addT xA xB = .tup [L 2 (xC.map encS), I 0] := by
  unfold addT
  rw [show addO [] (xA ++ xB) = true from by decide +kernel, if_pos rfl, if_pos rfl, show fewL (xA ++ xB) = xC from by decide +kernel]
theorem okAB : (xA.length ≤ 100000 ∧ xB.length ≤ 100000) ∧ ∀ x ∈ xA ++ xB, okO x := by
  refine ⟨by decide, fun x hx => ?_⟩
  simp [xA, xB] at hx
  rcases hx with rfl | rfl | rfl | rfl <;> (unfold okO; decide)
theorem fr1 : decide (chkF 100 [1, 1, 1] = 0 ∧ fairP 100 [1, 1, 1] [33, 34, 33]) = true := by decide +kernel
theorem fr2 : decide (chkF 100 [1, 1, 1] = 0 ∧ fairP 100 [1, 1, 1] [32, 34, 34]) = false := by decide +kernel

/-! skiarea/skiarealaw34.alive -/
def aliveIr : IFn := ⟨122, [.tmp 0],
  (.seq (.ops [
    ⟨(some 0), .mov, [.const (.bool false)], none⟩] false)
  (.seq (.ops [
    ⟨(some 16), .buildSl 3 1, [.const (.int .i64 1), .const (.int .i64 1), .const (.int .i64 1)], none⟩,
    ⟨(some 17), .call 11, [.const (.int .i64 100), .tmp 16], none⟩,
    ⟨(some 15), .mov, [.tmp 17], none⟩,
    ⟨(some 18), .extract 0, [.tmp 15], none⟩,
    ⟨(some 19), .extract 1, [.tmp 15], none⟩,
    ⟨(some 1), .mov, [.tmp 18], none⟩,
    ⟨(some 2), .mov, [.tmp 19], none⟩] false)
  (.seq (.ops [
    ⟨(some 21), .buildSl 3 1, [.const (.int .i64 1), .const (.int .i64 2), .const (.int .i64 4)], none⟩,
    ⟨(some 22), .call 11, [.const (.int .i64 100), .tmp 21], none⟩,
    ⟨(some 20), .mov, [.tmp 22], none⟩,
    ⟨(some 23), .extract 0, [.tmp 20], none⟩,
    ⟨(some 24), .extract 1, [.tmp 20], none⟩,
    ⟨(some 3), .mov, [.tmp 23], none⟩,
    ⟨(some 4), .mov, [.tmp 24], none⟩] false)
  (.seq (.ops [
    ⟨(some 26), .call 14, [.const (.int .i64 7), .const (.int .i64 3)], none⟩,
    ⟨(some 25), .mov, [.tmp 26], none⟩,
    ⟨(some 27), .extract 0, [.tmp 25], none⟩,
    ⟨(some 28), .extract 1, [.tmp 25], none⟩,
    ⟨(some 5), .mov, [.tmp 27], none⟩,
    ⟨(some 6), .mov, [.tmp 28], none⟩] false)
  (.seq (.ops [
    ⟨(some 30), .buildSl 3 1, [.const (.int .i64 0), .const (.int .i64 5)], none⟩,
    ⟨(some 31), .call 11, [.const (.int .i64 0), .tmp 30], none⟩,
    ⟨(some 29), .mov, [.tmp 31], none⟩,
    ⟨(some 32), .extract 0, [.tmp 29], none⟩,
    ⟨(some 33), .extract 1, [.tmp 29], none⟩,
    ⟨(some 7), .mov, [.tmp 32], none⟩,
    ⟨(some 8), .mov, [.tmp 33], none⟩] false)
  (.seq (.ops [
    ⟨(some 35), .buildSl 3 1, [.const (.int .i64 0), .const (.int .i64 0)], none⟩,
    ⟨(some 36), .call 11, [.const (.int .i64 5), .tmp 35], none⟩,
    ⟨(some 34), .mov, [.tmp 36], none⟩,
    ⟨(some 37), .extract 0, [.tmp 34], none⟩,
    ⟨(some 38), .extract 1, [.tmp 34], none⟩,
    ⟨(some 9), .mov, [.tmp 37], none⟩,
    ⟨(some 10), .mov, [.tmp 38], none⟩] false)
  (.seq (.ops [
    ⟨(some 40), .build [.int .i64 0, .int .i64 0] [(0, 1), (1, 1)], [.const (.int .i64 2), .const (.int .i64 5)], none⟩,
    ⟨(some 41), .build [.int .i64 0, .int .i64 0] [(0, 1), (1, 1)], [.const (.int .i64 1), .const (.int .i64 3)], none⟩,
    ⟨(some 42), .buildSl 41 2, [.tmp 40, .tmp 41], none⟩,
    ⟨(some 43), .build [.int .i64 0, .int .i64 0] [(0, 1), (1, 1)], [.const (.int .i64 2), .const (.int .i64 (-5))], none⟩,
    ⟨(some 44), .build [.int .i64 0, .int .i64 0] [(0, 1), (1, 1)], [.const (.int .i64 4), .const (.int .i64 1)], none⟩,
    ⟨(some 45), .buildSl 41 2, [.tmp 43, .tmp 44], none⟩,
    ⟨(some 46), .call 18, [.tmp 42, .tmp 45], none⟩,
    ⟨(some 39), .mov, [.tmp 46], none⟩,
    ⟨(some 47), .extract 0, [.tmp 39], none⟩,
    ⟨(some 48), .extract 1, [.tmp 39], none⟩,
    ⟨(some 11), .mov, [.tmp 47], none⟩,
    ⟨(some 12), .mov, [.tmp 48], none⟩] false)
  (.seq (.ops [
    ⟨(some 50), .mov, [.tmp 11], none⟩,
    ⟨(some 51), .call 20, [.tmp 50], none⟩,
    ⟨(some 49), .mov, [.tmp 51], none⟩,
    ⟨(some 52), .extract 0, [.tmp 49], none⟩,
    ⟨(some 53), .extract 1, [.tmp 49], none⟩,
    ⟨(some 13), .mov, [.tmp 52], none⟩,
    ⟨(some 14), .mov, [.tmp 53], none⟩] false)
  (.seq (.ops [
    ⟨(some 54), .mov, [.tmp 2], none⟩,
    ⟨(some 55), .cmp .eql, [.tmp 54, .const (.int .i64 0)], none⟩,
    ⟨(some 56), .mov, [.tmp 55], none⟩,
    ⟨(some 57), .mov, [.tmp 4], (some (56, true))⟩,
    ⟨(some 58), .cmp .eql, [.tmp 57, .const (.int .i64 0)], (some (56, true))⟩,
    ⟨(some 59), .pick, [.tmp 56, .tmp 58, .const (.bool false)], none⟩,
    ⟨(some 60), .mov, [.tmp 59], none⟩,
    ⟨(some 61), .mov, [.tmp 6], (some (60, true))⟩,
    ⟨(some 62), .cmp .eql, [.tmp 61, .const (.int .i64 0)], (some (60, true))⟩,
    ⟨(some 63), .pick, [.tmp 60, .tmp 62, .const (.bool false)], none⟩,
    ⟨(some 64), .mov, [.tmp 63], none⟩,
    ⟨(some 65), .mov, [.tmp 8], (some (64, true))⟩,
    ⟨(some 66), .cmp .eql, [.tmp 65, .const (.int .i64 0)], (some (64, true))⟩,
    ⟨(some 67), .pick, [.tmp 64, .tmp 66, .const (.bool false)], none⟩,
    ⟨(some 68), .mov, [.tmp 67], none⟩,
    ⟨(some 69), .mov, [.tmp 10], (some (68, true))⟩,
    ⟨(some 70), .cmp .eql, [.tmp 69, .const (.int .i64 1)], (some (68, true))⟩,
    ⟨(some 71), .pick, [.tmp 68, .tmp 70, .const (.bool false)], none⟩,
    ⟨(some 72), .mov, [.tmp 71], none⟩,
    ⟨(some 73), .mov, [.tmp 12], (some (72, true))⟩,
    ⟨(some 74), .cmp .eql, [.tmp 73, .const (.int .i64 0)], (some (72, true))⟩,
    ⟨(some 75), .pick, [.tmp 72, .tmp 74, .const (.bool false)], none⟩,
    ⟨(some 76), .mov, [.tmp 75], none⟩,
    ⟨(some 77), .mov, [.tmp 14], (some (76, true))⟩,
    ⟨(some 78), .cmp .eql, [.tmp 77, .const (.int .i64 0)], (some (76, true))⟩,
    ⟨(some 79), .pick, [.tmp 76, .tmp 78, .const (.bool false)], none⟩,
    ⟨(some 80), .mov, [.tmp 79], none⟩,
    ⟨(some 81), .mov, [.tmp 1], (some (80, true))⟩,
    ⟨(some 82), .buildSl 3 1, [.const (.int .i64 34), .const (.int .i64 33), .const (.int .i64 33)], (some (80, true))⟩,
    ⟨(some 83), .call 13, [.tmp 81, .tmp 82], (some (80, true))⟩,
    ⟨(some 84), .pick, [.tmp 80, .tmp 83, .const (.bool false)], none⟩,
    ⟨(some 85), .mov, [.tmp 84], none⟩,
    ⟨(some 86), .mov, [.tmp 3], (some (85, true))⟩,
    ⟨(some 87), .buildSl 3 1, [.const (.int .i64 14), .const (.int .i64 29), .const (.int .i64 57)], (some (85, true))⟩,
    ⟨(some 88), .call 13, [.tmp 86, .tmp 87], (some (85, true))⟩,
    ⟨(some 89), .pick, [.tmp 85, .tmp 88, .const (.bool false)], none⟩,
    ⟨(some 90), .mov, [.tmp 89], none⟩,
    ⟨(some 91), .mov, [.tmp 5], (some (90, true))⟩,
    ⟨(some 92), .buildSl 3 1, [.const (.int .i64 3), .const (.int .i64 2), .const (.int .i64 2)], (some (90, true))⟩,
    ⟨(some 93), .call 13, [.tmp 91, .tmp 92], (some (90, true))⟩,
    ⟨(some 94), .pick, [.tmp 90, .tmp 93, .const (.bool false)], none⟩,
    ⟨(some 95), .mov, [.tmp 94], none⟩,
    ⟨(some 96), .mov, [.tmp 7], (some (95, true))⟩,
    ⟨(some 97), .buildSl 3 1, [.const (.int .i64 0), .const (.int .i64 0)], (some (95, true))⟩,
    ⟨(some 98), .call 13, [.tmp 96, .tmp 97], (some (95, true))⟩,
    ⟨(some 99), .pick, [.tmp 95, .tmp 98, .const (.bool false)], none⟩,
    ⟨(some 100), .mov, [.tmp 99], none⟩,
    ⟨(some 101), .mov, [.tmp 11], (some (100, true))⟩,
    ⟨(some 102), .build [.int .i64 0, .int .i64 0] [(0, 1), (1, 1)], [.const (.int .i64 1), .const (.int .i64 3)], (some (100, true))⟩,
    ⟨(some 103), .build [.int .i64 0, .int .i64 0] [(0, 1), (1, 1)], [.const (.int .i64 4), .const (.int .i64 1)], (some (100, true))⟩,
    ⟨(some 104), .buildSl 41 2, [.tmp 102, .tmp 103], (some (100, true))⟩,
    ⟨(some 105), .call 22, [.tmp 101, .tmp 104], (some (100, true))⟩,
    ⟨(some 106), .pick, [.tmp 100, .tmp 105, .const (.bool false)], none⟩,
    ⟨(some 107), .mov, [.tmp 106], none⟩,
    ⟨(some 108), .mov, [.tmp 13], (some (107, true))⟩,
    ⟨(some 109), .cmp .eql, [.tmp 108, .const (.int .i64 4)], (some (107, true))⟩,
    ⟨(some 110), .pick, [.tmp 107, .tmp 109, .const (.bool false)], none⟩,
    ⟨(some 111), .mov, [.tmp 110], none⟩,
    ⟨(some 112), .buildSl 3 1, [.const (.int .i64 1), .const (.int .i64 1), .const (.int .i64 1)], (some (111, true))⟩,
    ⟨(some 113), .buildSl 3 1, [.const (.int .i64 33), .const (.int .i64 34), .const (.int .i64 33)], (some (111, true))⟩,
    ⟨(some 114), .call 16, [.const (.int .i64 100), .tmp 112, .tmp 113], (some (111, true))⟩,
    ⟨(some 115), .pick, [.tmp 111, .tmp 114, .const (.bool false)], none⟩,
    ⟨(some 116), .mov, [.tmp 115], none⟩,
    ⟨(some 117), .buildSl 3 1, [.const (.int .i64 1), .const (.int .i64 1), .const (.int .i64 1)], (some (116, true))⟩,
    ⟨(some 118), .buildSl 3 1, [.const (.int .i64 32), .const (.int .i64 34), .const (.int .i64 34)], (some (116, true))⟩,
    ⟨(some 119), .call 16, [.const (.int .i64 100), .tmp 117, .tmp 118], (some (116, true))⟩,
    ⟨(some 120), .not, [.tmp 119], (some (116, true))⟩,
    ⟨(some 121), .pick, [.tmp 116, .tmp 120, .const (.bool false)], none⟩,
    ⟨(some 0), .mov, [.tmp 121], none⟩] false)
  .ret)))))))))⟩
theorem aliveLow : lowF Try.prog {} Try.f10 = some aliveIr := by kernel_rfl
def aliveS : Spec := spec Unit (fun _ => []) (fun _ => True) (fun _ => B true)
set_option maxHeartbeats 4000000 in
theorem aliveV : fnV Try.prog aliveIr aliveS := by
  intro _ _
  repeat' ((conv => whnf); first | (refine ⟨fun h => ?_, fun h => ?_⟩ <;> try (exfalso; first | omega | exact absurd h (by decide) | exact h rfl)) | (refine ⟨_, split_h, (100, [1, 1, 1]), (by show ([1, 1, 1] : List Int).length ≤ 1000000; decide), leVs_of_eq rfl, .inl rfl, rfl, ?_⟩; show norm (splT 100 [1, 1, 1]) _; rw [ev1]) | (refine ⟨_, split_h, (100, [1, 2, 4]), (by show ([1, 2, 4] : List Int).length ≤ 1000000; decide), leVs_of_eq rfl, .inl rfl, rfl, ?_⟩; show norm (splT 100 [1, 2, 4]) _; rw [ev2]) | (refine ⟨_, split_h, (0, [0, 5]), (by show ([0, 5] : List Int).length ≤ 1000000; decide), leVs_of_eq rfl, .inl rfl, rfl, ?_⟩; show norm (splT 0 [0, 5]) _; rw [ev3]) | (refine ⟨_, split_h, (5, [0, 0]), (by show ([0, 0] : List Int).length ≤ 1000000; decide), leVs_of_eq rfl, .inl rfl, rfl, ?_⟩; show norm (splT 5 [0, 0]) _; rw [ev4]) | (refine ⟨_, even_h, (7, 3), trivial, leVs_of_eq rfl, .inl rfl, rfl, ?_⟩; show norm (evT 7 3) _; rw [ev5]) | (refine ⟨_, add_h, (xA, xB), okAB, leVs_of_eq rfl, .inl rfl, rfl, ?_⟩; show norm (addT xA xB) _; rw [ev6]) | (refine ⟨_, total_h, xC, (by show xC.length ≤ 1000000; decide), leVs_of_eq rfl, .inl rfl, rfl, ?_⟩; show norm (totT (some 4)) _) | (refine ⟨_, same_h, ([34, 33, 33], [34, 33, 33]), (by show ([34, 33, 33] : List Int).length ≤ 9223372036854775807; decide), leVs_of_eq rfl, .inl rfl, rfl, ?_⟩; show norm (B (decide (([34, 33, 33] : List Int) = [34, 33, 33]))) _; rw [decide_eq_true rfl]) | (refine ⟨_, same_h, ([14, 29, 57], [14, 29, 57]), (by show ([14, 29, 57] : List Int).length ≤ 9223372036854775807; decide), leVs_of_eq rfl, .inl rfl, rfl, ?_⟩; show norm (B (decide (([14, 29, 57] : List Int) = [14, 29, 57]))) _; rw [decide_eq_true rfl]) | (refine ⟨_, same_h, ([3, 2, 2], [3, 2, 2]), (by show ([3, 2, 2] : List Int).length ≤ 9223372036854775807; decide), leVs_of_eq rfl, .inl rfl, rfl, ?_⟩; show norm (B (decide (([3, 2, 2] : List Int) = [3, 2, 2]))) _; rw [decide_eq_true rfl]) | (refine ⟨_, same_h, ([0, 0], [0, 0]), (by show ([0, 0] : List Int).length ≤ 9223372036854775807; decide), leVs_of_eq rfl, .inl rfl, rfl, ?_⟩; show norm (B (decide (([0, 0] : List Int) = [0, 0]))) _; rw [decide_eq_true rfl]) | (refine ⟨_, sameS_h, (xC, xC), (by show xC.length ≤ 9223372036854775807; decide), leVs_of_eq rfl, .inl rfl, rfl, ?_⟩; show norm (B (decide (xC = xC))) _; rw [decide_eq_true rfl]) | (refine ⟨_, fair_h, (100, [1, 1, 1], [33, 34, 33]), (by show ([1, 1, 1] : List Int).length ≤ 1000000 ∧ ([33, 34, 33] : List Int).length ≤ 1000000; decide), leVs_of_eq rfl, .inl rfl, rfl, ?_⟩; show norm (B (decide (chkF 100 [1, 1, 1] = 0 ∧ fairP 100 [1, 1, 1] [33, 34, 33]))) _; rw [fr1]) | (refine ⟨_, fair_h, (100, [1, 1, 1], [32, 34, 34]), (by show ([1, 1, 1] : List Int).length ≤ 1000000 ∧ ([32, 34, 34] : List Int).length ≤ 1000000; decide), leVs_of_eq rfl, .inl rfl, rfl, ?_⟩; show norm (B (decide (chkF 100 [1, 1, 1] = 0 ∧ fairP 100 [1, 1, 1] [32, 34, 34]))) _; rw [fr2]) | exact ⟨[], rfl, trivial, rfl⟩ | fail)
theorem alive_h : Holds Try.prog 10 aliveS := holds_of mix Try.func10 aliveLow (fun _ => rfl) aliveV

end Go.Proofs.Ytepacknnggnifaa
