/- Incidents: the examples of the chapter hold: the walk. -/
import Derived.Test.YtoeichkblclfaaaN1
namespace Go.Proofs.Ytoeichkblclfaaa
open Go.RowKit

/-! skiarea/skiarealaw57.sample -/
def sampleIr : IFn := ⟨10, [.cell 0 4 true],
  (.seq (.ops [
    ⟨(some 0), .alloc [.nil, .nil, .nil, .nil], [], none⟩] false)
  (.seq (.ops [
    ⟨(some 1), .build [.int .i64 0, .int .i64 0] [(0, 1), (1, 1)], [.const (.int .i64 1), .const (.int .i64 1000)], none⟩,
    ⟨(some 2), .build [.int .i64 0, .int .i64 0] [(0, 1), (1, 1)], [.const (.int .i64 2), .const (.int .i64 1500)], none⟩,
    ⟨(some 3), .build [.int .i64 0, .int .i64 0] [(0, 1), (1, 1)], [.const (.int .i64 3), .const (.int .i64 2000)], none⟩,
    ⟨(some 4), .buildSl 79 2, [.tmp 1, .tmp 2, .tmp 3], none⟩,
    ⟨(some 5), .build [.int .i64 0, .int .i64 0, .int .i64 0, .int .i64 0, .int .i64 0, .int .i64 0, .int .i64 0] [(0, 1), (1, 1), (2, 1), (3, 1), (4, 1), (5, 1), (6, 1)], [.const (.int .i64 12), .const (.int .i64 1), .const (.int .i64 2), .const (.int .i64 1), .const (.int .i64 1), .const (.int .i64 1), .const (.int .i64 500)], none⟩,
    ⟨(some 6), .build [.int .i64 0, .int .i64 0, .int .i64 0, .int .i64 0, .int .i64 0, .int .i64 0, .int .i64 0] [(0, 1), (1, 1), (2, 1), (3, 1), (4, 1), (5, 1), (6, 1)], [.const (.int .i64 13), .const (.int .i64 1), .const (.int .i64 3), .const (.int .i64 2), .const (.int .i64 1), .const (.int .i64 1), .const (.int .i64 700)], none⟩,
    ⟨(some 7), .buildSl 81 7, [.tmp 5, .tmp 6], none⟩,
    ⟨(some 8), .buildSl 3 1, [.const (.int .i64 1)], none⟩,
    ⟨(some 9), .build [.nil, .nil, .nil, .nil] [(0, 1), (2, 1), (3, 1)], [.tmp 4, .tmp 7, .tmp 8], none⟩,
    ⟨none, .store 4, [.tmp 0, .tmp 9], none⟩] false)
  .ret))⟩
theorem sampleLow : lowF Try.prog {} Try.f28 = some sampleIr := by kernel_rfl
def sampleS : Spec := spec Unit (fun _ => []) (fun _ => True) (fun _ => aM smp)
theorem sampleV : fnV Try.prog sampleIr sampleS := by
  intro _ _
  show vc _ _ _ _ ⟨argEnv 0 [], [], 0⟩
  repeat' ((conv => whnf); first | fail | fail)
  all_goals exact ⟨[], rfl, trivial, ⟨rfl, rfl, rfl, rfl, trivial⟩⟩
theorem sample_h : Holds Try.prog 28 sampleS := holds_of mix Try.func28 sampleLow (fun _ => rfl) sampleV

/-! skiarea/skiarealaw57.alive -/
def aliveIr : IFn := ⟨174, [.tmp 0],
  (.seq (.ops [
    ⟨(some 0), .mov, [.const (.bool false)], none⟩] false)
  (.seq (.ops [
    ⟨(some 26), .call 24, [.const (.slice none 0 0), .const (.int .i64 7), .const (.int .i64 12), .const (.int .i64 100)], none⟩,
    ⟨(some 25), .mov, [.tmp 26], none⟩,
    ⟨(some 27), .extract 0, [.tmp 25], none⟩,
    ⟨(some 28), .extract 1, [.tmp 25], none⟩,
    ⟨(some 1), .mov, [.tmp 27], none⟩,
    ⟨(some 2), .mov, [.tmp 28], none⟩] false)
  (.seq (.ops [
    ⟨(some 30), .mov, [.tmp 1], none⟩,
    ⟨(some 31), .call 24, [.tmp 30, .const (.int .i64 8), .const (.int .i64 13), .const (.int .i64 90)], none⟩,
    ⟨(some 29), .mov, [.tmp 31], none⟩,
    ⟨(some 32), .extract 0, [.tmp 29], none⟩,
    ⟨(some 33), .extract 1, [.tmp 29], none⟩,
    ⟨(some 3), .mov, [.tmp 32], none⟩,
    ⟨(some 4), .mov, [.tmp 33], none⟩] false)
  (.seq (.ops [
    ⟨(some 35), .mov, [.tmp 3], none⟩,
    ⟨(some 36), .call 25, [.tmp 35, .const (.int .i64 8), .const (.int .i64 2), .const (.int .i64 120)], none⟩,
    ⟨(some 34), .mov, [.tmp 36], none⟩,
    ⟨(some 37), .extract 0, [.tmp 34], none⟩,
    ⟨(some 38), .extract 1, [.tmp 34], none⟩,
    ⟨(some 5), .mov, [.tmp 37], none⟩,
    ⟨(some 6), .mov, [.tmp 38], none⟩] false)
  (.seq (.ops [
    ⟨(some 40), .mov, [.tmp 3], none⟩,
    ⟨(some 41), .call 26, [.tmp 40, .const (.int .i64 7), .const (.int .i64 3), .const (.int .i64 150)], none⟩,
    ⟨(some 39), .mov, [.tmp 41], none⟩,
    ⟨(some 42), .extract 0, [.tmp 39], none⟩,
    ⟨(some 43), .extract 1, [.tmp 39], none⟩,
    ⟨(some 7), .mov, [.tmp 42], none⟩,
    ⟨(some 8), .mov, [.tmp 43], none⟩] false)
  (.seq (.ops [
    ⟨(some 45), .mov, [.tmp 7], none⟩,
    ⟨(some 46), .call 26, [.tmp 45, .const (.int .i64 8), .const (.int .i64 3), .const (.int .i64 150)], none⟩,
    ⟨(some 44), .mov, [.tmp 46], none⟩,
    ⟨(some 47), .extract 0, [.tmp 44], none⟩,
    ⟨(some 48), .extract 1, [.tmp 44], none⟩,
    ⟨(some 9), .mov, [.tmp 47], none⟩,
    ⟨(some 10), .mov, [.tmp 48], none⟩] false)
  (.seq (.ops [
    ⟨(some 50), .mov, [.tmp 7], none⟩,
    ⟨(some 51), .call 27, [.tmp 50, .const (.int .i64 7), .const (.int .i64 160)], none⟩,
    ⟨(some 49), .mov, [.tmp 51], none⟩,
    ⟨(some 52), .extract 0, [.tmp 49], none⟩,
    ⟨(some 53), .extract 1, [.tmp 49], none⟩,
    ⟨(some 11), .mov, [.tmp 52], none⟩,
    ⟨(some 12), .mov, [.tmp 53], none⟩] false)
  (.seq (.ops [
    ⟨(some 55), .mov, [.tmp 11], none⟩,
    ⟨(some 56), .call 27, [.tmp 55, .const (.int .i64 7), .const (.int .i64 170)], none⟩,
    ⟨(some 54), .mov, [.tmp 56], none⟩,
    ⟨(some 57), .extract 0, [.tmp 54], none⟩,
    ⟨(some 58), .extract 1, [.tmp 54], none⟩,
    ⟨(some 13), .mov, [.tmp 57], none⟩,
    ⟨(some 14), .mov, [.tmp 58], none⟩] false)
  (.seq (.ops [
    ⟨(some 60), .mov, [.tmp 11], none⟩,
    ⟨(some 61), .call 25, [.tmp 60, .const (.int .i64 7), .const (.int .i64 1), .const (.int .i64 170)], none⟩,
    ⟨(some 59), .mov, [.tmp 61], none⟩,
    ⟨(some 62), .extract 0, [.tmp 59], none⟩,
    ⟨(some 63), .extract 1, [.tmp 59], none⟩,
    ⟨(some 15), .mov, [.tmp 62], none⟩,
    ⟨(some 16), .mov, [.tmp 63], none⟩] false)
  (.seq (.ops [
    ⟨(some 65), .mov, [.tmp 15], none⟩,
    ⟨(some 66), .call 27, [.tmp 65, .const (.int .i64 7), .const (.int .i64 180)], none⟩,
    ⟨(some 64), .mov, [.tmp 66], none⟩,
    ⟨(some 67), .extract 0, [.tmp 64], none⟩,
    ⟨(some 68), .extract 1, [.tmp 64], none⟩,
    ⟨(some 17), .mov, [.tmp 67], none⟩,
    ⟨(some 18), .mov, [.tmp 68], none⟩] false)
  (.seq (.ops [
    ⟨(some 70), .mov, [.tmp 17], none⟩,
    ⟨(some 71), .call 27, [.tmp 70, .const (.int .i64 7), .const (.int .i64 190)], none⟩,
    ⟨(some 69), .mov, [.tmp 71], none⟩,
    ⟨(some 72), .extract 0, [.tmp 69], none⟩,
    ⟨(some 73), .extract 1, [.tmp 69], none⟩,
    ⟨(some 19), .mov, [.tmp 72], none⟩,
    ⟨(some 20), .mov, [.tmp 73], none⟩] false)
  (.seq (.ops [
    ⟨(some 75), .mov, [.tmp 19], none⟩,
    ⟨(some 76), .call 26, [.tmp 75, .const (.int .i64 8), .const (.int .i64 3), .const (.int .i64 200)], none⟩,
    ⟨(some 74), .mov, [.tmp 76], none⟩,
    ⟨(some 77), .extract 0, [.tmp 74], none⟩,
    ⟨(some 78), .extract 1, [.tmp 74], none⟩,
    ⟨(some 21), .mov, [.tmp 77], none⟩,
    ⟨(some 22), .mov, [.tmp 78], none⟩] false)
  (.seq (.ops [
    ⟨(some 80), .call 28, [], none⟩,
    ⟨(some 81), .mov, [.tmp 3], none⟩,
    ⟨(some 82), .buildSl 3 1, [.const (.int .i64 1), .const (.int .i64 3)], none⟩,
    ⟨(some 83), .call 21, [.tmp 80, .tmp 81, .tmp 82], none⟩,
    ⟨(some 79), .mov, [.tmp 83], none⟩,
    ⟨(some 84), .extract 0, [.tmp 79], none⟩,
    ⟨(some 85), .extract 1, [.tmp 79], none⟩,
    ⟨(some 23), .mov, [.tmp 84], none⟩,
    ⟨(some 24), .mov, [.tmp 85], none⟩] false)
  (.seq (.seq (.ops [
    ⟨(some 86), .mov, [.tmp 4], none⟩,
    ⟨(some 87), .cmp .neq, [.tmp 86, .const (.int .i64 0)], none⟩,
    ⟨(some 88), .mov, [.tmp 87], none⟩,
    ⟨(some 89), .mov, [.tmp 6], (some (88, false))⟩,
    ⟨(some 90), .cmp .neq, [.tmp 89, .const (.int .i64 0)], (some (88, false))⟩,
    ⟨(some 91), .pick, [.tmp 88, .const (.bool true), .tmp 90], none⟩,
    ⟨(some 92), .mov, [.tmp 91], none⟩,
    ⟨(some 93), .mov, [.tmp 8], (some (92, false))⟩,
    ⟨(some 94), .cmp .neq, [.tmp 93, .const (.int .i64 0)], (some (92, false))⟩,
    ⟨(some 95), .pick, [.tmp 92, .const (.bool true), .tmp 94], none⟩,
    ⟨(some 96), .mov, [.tmp 95], none⟩,
    ⟨(some 97), .mov, [.tmp 10], (some (96, false))⟩,
    ⟨(some 98), .cmp .neq, [.tmp 97, .const (.int .i64 15)], (some (96, false))⟩,
    ⟨(some 99), .pick, [.tmp 96, .const (.bool true), .tmp 98], none⟩,
    ⟨(some 100), .mov, [.tmp 99], none⟩,
    ⟨(some 101), .mov, [.tmp 12], (some (100, false))⟩,
    ⟨(some 102), .cmp .neq, [.tmp 101, .const (.int .i64 0)], (some (100, false))⟩,
    ⟨(some 103), .pick, [.tmp 100, .const (.bool true), .tmp 102], none⟩,
    ⟨(some 104), .mov, [.tmp 103], none⟩,
    ⟨(some 105), .mov, [.tmp 14], (some (104, false))⟩,
    ⟨(some 106), .cmp .neq, [.tmp 105, .const (.int .i64 17)], (some (104, false))⟩,
    ⟨(some 107), .pick, [.tmp 104, .const (.bool true), .tmp 106], none⟩,
    ⟨(some 108), .mov, [.tmp 107], none⟩,
    ⟨(some 109), .mov, [.tmp 16], (some (108, false))⟩,
    ⟨(some 110), .cmp .neq, [.tmp 109, .const (.int .i64 0)], (some (108, false))⟩,
    ⟨(some 111), .pick, [.tmp 108, .const (.bool true), .tmp 110], none⟩,
    ⟨(some 112), .mov, [.tmp 111], none⟩,
    ⟨(some 113), .mov, [.tmp 18], (some (112, false))⟩,
    ⟨(some 114), .cmp .neq, [.tmp 113, .const (.int .i64 0)], (some (112, false))⟩,
    ⟨(some 115), .pick, [.tmp 112, .const (.bool true), .tmp 114], none⟩,
    ⟨(some 116), .mov, [.tmp 115], none⟩,
    ⟨(some 117), .mov, [.tmp 20], (some (116, false))⟩,
    ⟨(some 118), .cmp .neq, [.tmp 117, .const (.int .i64 0)], (some (116, false))⟩,
    ⟨(some 119), .pick, [.tmp 116, .const (.bool true), .tmp 118], none⟩,
    ⟨(some 120), .mov, [.tmp 119], none⟩,
    ⟨(some 121), .mov, [.tmp 22], (some (120, false))⟩,
    ⟨(some 122), .cmp .neq, [.tmp 121, .const (.int .i64 0)], (some (120, false))⟩,
    ⟨(some 123), .pick, [.tmp 120, .const (.bool true), .tmp 122], none⟩,
    ⟨(some 124), .mov, [.tmp 123], none⟩,
    ⟨(some 125), .mov, [.tmp 24], (some (124, false))⟩,
    ⟨(some 126), .cmp .neq, [.tmp 125, .const (.int .i64 0)], (some (124, false))⟩,
    ⟨(some 127), .pick, [.tmp 124, .const (.bool true), .tmp 126], none⟩,
    ⟨(some 128), .mov, [.tmp 127], none⟩,
    ⟨(some 129), .mov, [.tmp 19], (some (128, false))⟩,
    ⟨(some 130), .len, [.tmp 129], (some (128, false))⟩,
    ⟨(some 131), .cmp .neq, [.tmp 130, .const (.int .i64 2)], (some (128, false))⟩,
    ⟨(some 132), .pick, [.tmp 128, .const (.bool true), .tmp 131], none⟩] false)
  (.cond (.tmp 132)
    (.seq (.ops [
      ⟨(some 0), .mov, [.const (.bool false)], none⟩] false)
    .ret)
    .skip))
  (.seq (.ops [
    ⟨(some 133), .mov, [.tmp 3], none⟩,
    ⟨(some 134), .call 16, [.tmp 133], none⟩,
    ⟨(some 135), .buildSl 3 1, [.const (.int .i64 8), .const (.int .i64 7)], none⟩,
    ⟨(some 136), .call 17, [.tmp 134, .tmp 135], none⟩,
    ⟨(some 137), .mov, [.tmp 136], none⟩,
    ⟨(some 138), .mov, [.tmp 5], (some (137, true))⟩,
    ⟨(some 139), .call 16, [.tmp 138], (some (137, true))⟩,
    ⟨(some 140), .buildSl 3 1, [.const (.int .i64 7), .const (.int .i64 8)], (some (137, true))⟩,
    ⟨(some 141), .call 17, [.tmp 139, .tmp 140], (some (137, true))⟩,
    ⟨(some 142), .pick, [.tmp 137, .tmp 141, .const (.bool false)], none⟩,
    ⟨(some 143), .mov, [.tmp 142], none⟩,
    ⟨(some 144), .mov, [.tmp 19], (some (143, true))⟩,
    ⟨(some 145), .idx 6, [.tmp 144, .const (.int .i64 0)], (some (143, true))⟩,
    ⟨(some 146), .faddr 3, [.tmp 145], (some (143, true))⟩,
    ⟨(some 147), .load 1 false, [.tmp 146], (some (143, true))⟩,
    ⟨(some 148), .cmp .eql, [.tmp 147, .const (.int .i64 5)], (some (143, true))⟩,
    ⟨(some 149), .pick, [.tmp 143, .tmp 148, .const (.bool false)], none⟩,
    ⟨(some 150), .mov, [.tmp 149], none⟩,
    ⟨(some 151), .mov, [.tmp 19], (some (150, true))⟩,
    ⟨(some 152), .idx 6, [.tmp 151, .const (.int .i64 0)], (some (150, true))⟩,
    ⟨(some 153), .faddr 4, [.tmp 152], (some (150, true))⟩,
    ⟨(some 154), .load 1 false, [.tmp 153], (some (150, true))⟩,
    ⟨(some 155), .cmp .eql, [.tmp 154, .const (.int .i64 0)], (some (150, true))⟩,
    ⟨(some 156), .pick, [.tmp 150, .tmp 155, .const (.bool false)], none⟩,
    ⟨(some 157), .mov, [.tmp 156], none⟩,
    ⟨(some 158), .mov, [.tmp 19], (some (157, true))⟩,
    ⟨(some 159), .idx 6, [.tmp 158, .const (.int .i64 0)], (some (157, true))⟩,
    ⟨(some 160), .faddr 5, [.tmp 159], (some (157, true))⟩,
    ⟨(some 161), .load 1 false, [.tmp 160], (some (157, true))⟩,
    ⟨(some 162), .cmp .eql, [.tmp 161, .const (.int .i64 190)], (some (157, true))⟩,
    ⟨(some 163), .pick, [.tmp 157, .tmp 162, .const (.bool false)], none⟩,
    ⟨(some 164), .mov, [.tmp 163], none⟩,
    ⟨(some 165), .mov, [.tmp 23], (some (164, true))⟩,
    ⟨(some 166), .buildSl 3 1, [.const (.int .i64 1), .const (.int .i64 0)], (some (164, true))⟩,
    ⟨(some 167), .call 17, [.tmp 165, .tmp 166], (some (164, true))⟩,
    ⟨(some 168), .pick, [.tmp 164, .tmp 167, .const (.bool false)], none⟩,
    ⟨(some 169), .mov, [.tmp 168], none⟩,
    ⟨(some 170), .mov, [.tmp 19], (some (169, true))⟩,
    ⟨(some 171), .call 10, [.tmp 170], (some (169, true))⟩,
    ⟨(some 172), .cmp .eql, [.tmp 171, .const (.int .i64 0)], (some (169, true))⟩,
    ⟨(some 173), .pick, [.tmp 169, .tmp 172, .const (.bool false)], none⟩,
    ⟨(some 0), .mov, [.tmp 173], none⟩] false)
  .ret)))))))))))))))⟩
theorem aliveLow : lowF Try.prog {} Try.f9 = some aliveIr := by kernel_rfl
def aliveS : Spec := spec Unit (fun _ => []) (fun _ => True) (fun _ => B true)
set_option maxHeartbeats 4000000 in
set_option maxRecDepth 20000 in
theorem aliveV : fnV Try.prog aliveIr aliveS := by
  intro _ _
  show vc _ _ _ _ ⟨argEnv 0 [], [], 0⟩
  repeat' ((conv => whnf); first | (refine ⟨fun h => ?_, fun h => ?_⟩ <;> try (exfalso; first | omega | exact absurd h (by decide) | exact h rfl | exact absurd (show true = false from h) (by decide) | exact absurd (show false = true from h) (by decide))) | (refine ⟨_, report_h, ([], 7, 12, 100), (Nat.le_of_ble_eq_true rfl), ⟨rfl, rfl, rfl, rfl, trivial⟩, .inl rfl, rfl, ?_⟩; show norm (resT (reportF [] 7 12 100)) _; rw [ev_a]) | (refine ⟨_, report_h, ([i1], 8, 13, 90), (Nat.le_of_ble_eq_true rfl), ⟨rfl, rfl, rfl, rfl, trivial⟩, .inl rfl, rfl, ?_⟩; show norm (resT (reportF [i1] 8 13 90)) _; rw [ev_b]) | (refine ⟨_, judge_h, ([i1, i2], 8, 2, 120), (Nat.le_of_ble_eq_true rfl), ⟨rfl, rfl, rfl, rfl, trivial⟩, .inl rfl, rfl, ?_⟩; show norm (resT (changeF (judgeF 2) [i1, i2] 8 120)) _; rw [ev_c]) | (refine ⟨_, go_h, ([i1, i2], 7, 3, 150), (Nat.le_of_ble_eq_true rfl), ⟨rfl, rfl, rfl, rfl, trivial⟩, .inl rfl, rfl, ?_⟩; show norm (resT (changeF (sendF [i1, i2] 3) [i1, i2] 7 150)) _; rw [ev_d]) | (refine ⟨_, go_h, ([⟨7, 12, 0, 2, 3, 150⟩, i2], 8, 3, 150), (Nat.le_of_ble_eq_true rfl), ⟨rfl, rfl, rfl, rfl, trivial⟩, .inl rfl, rfl, ?_⟩; show norm (resT (changeF (sendF [⟨7, 12, 0, 2, 3, 150⟩, i2] 3) [⟨7, 12, 0, 2, 3, 150⟩, i2] 8 150)) _; rw [ev_d2]) | (refine ⟨_, move_h, ([⟨7, 12, 0, 2, 3, 150⟩, i2], 7, 160), (Nat.le_of_ble_eq_true rfl), ⟨rfl, rfl, rfl, trivial⟩, .inl rfl, rfl, ?_⟩; show norm (resT (changeF moveF [⟨7, 12, 0, 2, 3, 150⟩, i2] 7 160)) _; rw [ev_x]) | (refine ⟨_, move_h, ([⟨7, 12, 0, 3, 3, 160⟩, i2], 7, 170), (Nat.le_of_ble_eq_true rfl), ⟨rfl, rfl, rfl, trivial⟩, .inl rfl, rfl, ?_⟩; show norm (resT (changeF moveF [⟨7, 12, 0, 3, 3, 160⟩, i2] 7 170)) _; rw [ev_x2]) | (refine ⟨_, judge_h, ([⟨7, 12, 0, 3, 3, 160⟩, i2], 7, 1, 170), (Nat.le_of_ble_eq_true rfl), ⟨rfl, rfl, rfl, rfl, trivial⟩, .inl rfl, rfl, ?_⟩; show norm (resT (changeF (judgeF 1) [⟨7, 12, 0, 3, 3, 160⟩, i2] 7 170)) _; rw [ev_y]) | (refine ⟨_, move_h, ([⟨7, 12, 1, 3, 3, 170⟩, i2], 7, 180), (Nat.le_of_ble_eq_true rfl), ⟨rfl, rfl, rfl, trivial⟩, .inl rfl, rfl, ?_⟩; show norm (resT (changeF moveF [⟨7, 12, 1, 3, 3, 170⟩, i2] 7 180)) _; rw [ev_z]) | (refine ⟨_, move_h, ([⟨7, 12, 1, 4, 3, 180⟩, i2], 7, 190), (Nat.le_of_ble_eq_true rfl), ⟨rfl, rfl, rfl, trivial⟩, .inl rfl, rfl, ?_⟩; show norm (resT (changeF moveF [⟨7, 12, 1, 4, 3, 180⟩, i2] 7 190)) _; rw [ev_w]) | (refine ⟨_, go_h, ([⟨7, 12, 1, 5, 0, 190⟩, i2], 8, 3, 200), (Nat.le_of_ble_eq_true rfl), ⟨rfl, rfl, rfl, rfl, trivial⟩, .inl rfl, rfl, ?_⟩; show norm (resT (changeF (sendF [⟨7, 12, 1, 5, 0, 190⟩, i2] 3) [⟨7, 12, 1, 5, 0, 190⟩, i2] 8 200)) _; rw [ev_v]) | (refine ⟨_, sample_h, (), trivial, trivial, .inl rfl, rfl, ?_⟩; show norm (aM smp) _) | (refine ⟨_, plan_h, (smp, [i1, i2], [1, 3]), ⟨smp_ok, ids_b, (Nat.le_of_ble_eq_true rfl)⟩, ⟨leV_refl _, rfl, rfl, trivial⟩, .inl rfl, rfl, ?_⟩; show norm (.tup [L 1 ((planF smp [i1, i2] [1, 3]).1.map e1), I (planF smp [i1, i2] [1, 3]).2]) _; rw [ev_p]) | (refine ⟨_, urgent_h, [i1, i2], ⟨ids_b, (Nat.le_of_ble_eq_true rfl)⟩, ⟨rfl, trivial⟩, .inl rfl, rfl, ?_⟩; show norm (L 1 ((urgF [i1, i2]).map e1)) _; rw [ev_ub]) | (refine ⟨_, urgent_h, [i1, ⟨8, 13, 2, 1, 0, 120⟩], ⟨ids_c, (Nat.le_of_ble_eq_true rfl)⟩, ⟨rfl, trivial⟩, .inl rfl, rfl, ?_⟩; show norm (L 1 ((urgF [i1, ⟨8, 13, 2, 1, 0, 120⟩]).map e1)) _; rw [ev_uc]) | (refine ⟨_, lsame_h, ([8, 7], [8, 7]), (Nat.le_of_ble_eq_true rfl), ⟨rfl, rfl, trivial⟩, .inl rfl, rfl, ?_⟩; show norm (B true) _) | (refine ⟨_, lsame_h, ([7, 8], [7, 8]), (Nat.le_of_ble_eq_true rfl), ⟨rfl, rfl, trivial⟩, .inl rfl, rfl, ?_⟩; show norm (B true) _) | (refine ⟨_, lsame_h, ([1, 0], [1, 0]), (Nat.le_of_ble_eq_true rfl), ⟨rfl, rfl, trivial⟩, .inl rfl, rfl, ?_⟩; show norm (B true) _) | (refine ⟨_, right_h, [⟨7, 12, 1, 5, 0, 190⟩, i2], (Nat.le_of_ble_eq_true rfl), ⟨rfl, trivial⟩, .inl rfl, rfl, ?_⟩; show norm (I (rightI [⟨7, 12, 1, 5, 0, 190⟩, i2])) _; rw [ev_r]) | (refine And.intro ⟨by decide, by decide⟩ ?_; intro r hrr; cases hrr) | exact ⟨[], rfl, trivial, rfl⟩ | fail | fail)
theorem alive_h : Holds Try.prog 9 aliveS := holds_of mix Try.func9 aliveLow (fun _ => rfl) aliveV

end Go.Proofs.Ytoeichkblclfaaa
