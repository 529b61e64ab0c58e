/- Periods: the examples of the chapter hold. -/
import Derived.Test.YtpkhannkbafimaaGreatRH
namespace Go.Proofs.YtpkhannkbafimaaGreat
open Go.RowKit

/-! skiarea/skiarealaw38.ride -/
def rideIr : IFn := ⟨9, [.cell 4 7 true],
 (.seq (.ops [
 ⟨(some 4), .alloc [.int .i64 0, .int .i64 0, .int .i64 0, .int .i64 0, .int .i64 0, .int .i64 0, .int .i64 0], [], none⟩] false)
 (.seq (.ops [
 ⟨(some 5), .mov, [.tmp 0], none⟩,
 ⟨(some 6), .mov, [.tmp 0], none⟩,
 ⟨(some 7), .mov, [.tmp 1], none⟩,
 ⟨(some 8), .build [.int .i64 0, .int .i64 0, .int .i64 0, .int .i64 0, .int .i64 0, .int .i64 0, .int .i64 0] [(0, 1), (1, 1), (2, 1), (3, 1), (4, 1), (5, 1), (6, 1)], [.const (.int .i64 1), .tmp 5, .const (.int .i64 7), .tmp 6, .const (.int .i64 1), .const (.int .i64 1), .tmp 7], none⟩,
 ⟨none, .store 7, [.tmp 4, .tmp 8], none⟩] false)
 .ret))⟩
theorem rideLow : lowF Tryz.prog {} Tryz.f40 = some rideIr := by kernel_rfl
def rideS : Spec := spec (Int × Int) (fun p => [I p.1, I p.2]) (fun _ => True) (fun p => aD (rd p.1 p.2))
theorem rideV : fnV Tryz.prog rideIr rideS := by
  intro ⟨(s : Int), (u : Int)⟩ _
  show vc _ _ _ _ ⟨argEnv 0 [I s, I u], [], 0⟩
  repeat' ((conv => whnf); first | fail | fail)
  all_goals exact ⟨[], rfl, trivial, rfl, rfl, rfl, rfl, rfl, rfl, rfl, trivial⟩
theorem ride_h : Holds Tryz.prog 40 rideS := holds_of mix Tryz.func40 rideLow (fun _ => rfl) rideV

/-! skiarea/skiarealaw38.alive -/
def aliveIr : IFn := ⟨151, [.tmp 0],
 (.seq (.ops [
 ⟨(some 0), .mov, [.const (.bool false)], none⟩] false)
 (.seq (.ops [
 ⟨(some 22), .build [.nil, .nil, .nil] [], [], none⟩,
 ⟨(some 23), .call 15, [.tmp 22, .const (.int .i64 1000)], none⟩,
 ⟨(some 21), .mov, [.tmp 23], none⟩,
 ⟨(some 24), .extract 0, [.tmp 21], none⟩,
 ⟨(some 25), .extract 1, [.tmp 21], none⟩,
 ⟨(some 1), .alloc [.nil, .nil, .nil], [], none⟩,
 ⟨none, .store 3, [.tmp 1, .tmp 24], none⟩,
 ⟨(some 2), .mov, [.tmp 25], none⟩] false)
 (.seq (.ops [
 ⟨(some 27), .load 3 true, [.tmp 1], none⟩,
 ⟨(some 28), .call 15, [.tmp 27, .const (.int .i64 2000)], none⟩,
 ⟨(some 26), .mov, [.tmp 28], none⟩,
 ⟨(some 29), .extract 0, [.tmp 26], none⟩,
 ⟨(some 30), .extract 1, [.tmp 26], none⟩,
 ⟨(some 3), .alloc [.nil, .nil, .nil], [], none⟩,
 ⟨none, .store 3, [.tmp 3, .tmp 29], none⟩,
 ⟨(some 4), .mov, [.tmp 30], none⟩] false)
 (.seq (.ops [
 ⟨(some 32), .load 3 true, [.tmp 3], none⟩,
 ⟨(some 33), .call 40, [.const (.int .i64 1), .const (.int .i64 999)], none⟩,
 ⟨(some 34), .call 20, [.tmp 32, .tmp 33], none⟩,
 ⟨(some 31), .mov, [.tmp 34], none⟩,
 ⟨(some 35), .extract 0, [.tmp 31], none⟩,
 ⟨(some 36), .extract 1, [.tmp 31], none⟩,
 ⟨(some 37), .extract 2, [.tmp 31], none⟩,
 ⟨(some 5), .alloc [.nil, .nil, .nil], [], none⟩,
 ⟨none, .store 3, [.tmp 5, .tmp 35], none⟩,
 ⟨(some 6), .mov, [.tmp 36], none⟩,
 ⟨(some 7), .mov, [.tmp 37], none⟩] true)
 (.seq (.ops [
 ⟨(some 39), .load 3 true, [.tmp 5], none⟩,
 ⟨(some 40), .build [.int .i64 0, .int .i64 0] [(0, 1), (1, 1)], [.const (.int .i64 1), .const (.int .i64 60)], none⟩,
 ⟨(some 41), .build [.int .i64 0, .int .i64 0] [(0, 1), (1, 1)], [.const (.int .i64 2), .const (.int .i64 40)], none⟩,
 ⟨(some 42), .buildSl 58 2, [.tmp 40, .tmp 41], none⟩,
 ⟨(some 43), .build [.int .i64 0, .int .i64 0] [(0, 1), (1, 1)], [.const (.int .i64 1), .const (.int .i64 100)], none⟩,
 ⟨(some 44), .buildSl 58 2, [.tmp 43], none⟩,
 ⟨(some 45), .call 29, [.tmp 39, .const (.int .i64 1), .tmp 42, .tmp 44], none⟩,
 ⟨(some 38), .mov, [.tmp 45], none⟩,
 ⟨(some 46), .extract 0, [.tmp 38], none⟩,
 ⟨(some 47), .extract 1, [.tmp 38], none⟩,
 ⟨(some 8), .alloc [.nil, .nil, .nil], [], none⟩,
 ⟨none, .store 3, [.tmp 8, .tmp 46], none⟩,
 ⟨(some 9), .mov, [.tmp 47], none⟩] false)
 (.seq (.ops [
 ⟨(some 49), .load 3 true, [.tmp 8], none⟩,
 ⟨(some 50), .call 40, [.const (.int .i64 2), .const (.int .i64 500)], none⟩,
 ⟨(some 51), .call 20, [.tmp 49, .tmp 50], none⟩,
 ⟨(some 48), .mov, [.tmp 51], none⟩,
 ⟨(some 52), .extract 0, [.tmp 48], none⟩,
 ⟨(some 53), .extract 1, [.tmp 48], none⟩,
 ⟨(some 54), .extract 2, [.tmp 48], none⟩,
 ⟨(some 10), .alloc [.nil, .nil, .nil], [], none⟩,
 ⟨none, .store 3, [.tmp 10, .tmp 52], none⟩,
 ⟨(some 11), .mov, [.tmp 53], none⟩,
 ⟨(some 12), .mov, [.tmp 54], none⟩] true)
 (.seq (.ops [
 ⟨(some 56), .load 3 true, [.tmp 10], none⟩,
 ⟨(some 57), .call 40, [.const (.int .i64 2), .const (.int .i64 501)], none⟩,
 ⟨(some 58), .call 20, [.tmp 56, .tmp 57], none⟩,
 ⟨(some 55), .mov, [.tmp 58], none⟩,
 ⟨(some 59), .extract 0, [.tmp 55], none⟩,
 ⟨(some 60), .extract 1, [.tmp 55], none⟩,
 ⟨(some 61), .extract 2, [.tmp 55], none⟩,
 ⟨(some 13), .alloc [.nil, .nil, .nil], [], none⟩,
 ⟨none, .store 3, [.tmp 13, .tmp 59], none⟩,
 ⟨(some 14), .mov, [.tmp 60], none⟩,
 ⟨(some 15), .mov, [.tmp 61], none⟩] true)
 (.seq (.ops [
 ⟨(some 63), .load 3 true, [.tmp 3], none⟩,
 ⟨(some 64), .call 29, [.tmp 63, .const (.int .i64 2), .const (.slice none 0 0), .const (.slice none 0 0)], none⟩,
 ⟨(some 62), .mov, [.tmp 64], none⟩,
 ⟨(some 65), .extract 0, [.tmp 62], none⟩,
 ⟨(some 66), .extract 1, [.tmp 62], none⟩,
 ⟨(some 16), .alloc [.nil, .nil, .nil], [], none⟩,
 ⟨none, .store 3, [.tmp 16, .tmp 65], none⟩,
 ⟨(some 17), .mov, [.tmp 66], none⟩] false)
 (.seq (.ops [
 ⟨(some 68), .load 3 true, [.tmp 3], none⟩,
 ⟨(some 69), .call 40, [.const (.int .i64 3), .const (.int .i64 2000)], none⟩,
 ⟨(some 70), .call 20, [.tmp 68, .tmp 69], none⟩,
 ⟨(some 67), .mov, [.tmp 70], none⟩,
 ⟨(some 71), .extract 0, [.tmp 67], none⟩,
 ⟨(some 72), .extract 1, [.tmp 67], none⟩,
 ⟨(some 73), .extract 2, [.tmp 67], none⟩,
 ⟨(some 18), .alloc [.nil, .nil, .nil], [], none⟩,
 ⟨none, .store 3, [.tmp 18, .tmp 71], none⟩,
 ⟨(some 19), .mov, [.tmp 72], none⟩,
 ⟨(some 20), .mov, [.tmp 73], none⟩] true)
 (.seq (.seq (.ops [
 ⟨(some 74), .mov, [.tmp 2], none⟩,
 ⟨(some 75), .cmp .neq, [.tmp 74, .const (.int .i64 0)], none⟩,
 ⟨(some 76), .mov, [.tmp 75], none⟩,
 ⟨(some 77), .mov, [.tmp 4], (some (76, false))⟩,
 ⟨(some 78), .cmp .neq, [.tmp 77, .const (.int .i64 0)], (some (76, false))⟩,
 ⟨(some 79), .pick, [.tmp 76, .const (.bool true), .tmp 78], none⟩,
 ⟨(some 80), .mov, [.tmp 79], none⟩,
 ⟨(some 81), .mov, [.tmp 7], (some (80, false))⟩,
 ⟨(some 82), .cmp .neq, [.tmp 81, .const (.int .i64 0)], (some (80, false))⟩,
 ⟨(some 83), .pick, [.tmp 80, .const (.bool true), .tmp 82], none⟩,
 ⟨(some 84), .mov, [.tmp 83], none⟩,
 ⟨(some 85), .mov, [.tmp 9], (some (84, false))⟩,
 ⟨(some 86), .cmp .neq, [.tmp 85, .const (.int .i64 0)], (some (84, false))⟩,
 ⟨(some 87), .pick, [.tmp 84, .const (.bool true), .tmp 86], none⟩,
 ⟨(some 88), .mov, [.tmp 87], none⟩,
 ⟨(some 89), .mov, [.tmp 12], (some (88, false))⟩,
 ⟨(some 90), .cmp .neq, [.tmp 89, .const (.int .i64 0)], (some (88, false))⟩,
 ⟨(some 91), .pick, [.tmp 88, .const (.bool true), .tmp 90], none⟩,
 ⟨(some 92), .mov, [.tmp 91], none⟩,
 ⟨(some 93), .mov, [.tmp 15], (some (92, false))⟩,
 ⟨(some 94), .cmp .neq, [.tmp 93, .const (.int .i64 15)], (some (92, false))⟩,
 ⟨(some 95), .pick, [.tmp 92, .const (.bool true), .tmp 94], none⟩,
 ⟨(some 96), .mov, [.tmp 95], none⟩,
 ⟨(some 97), .mov, [.tmp 17], (some (96, false))⟩,
 ⟨(some 98), .cmp .neq, [.tmp 97, .const (.int .i64 10)], (some (96, false))⟩,
 ⟨(some 99), .pick, [.tmp 96, .const (.bool true), .tmp 98], none⟩,
 ⟨(some 100), .mov, [.tmp 99], none⟩,
 ⟨(some 101), .mov, [.tmp 20], (some (100, false))⟩,
 ⟨(some 102), .cmp .neq, [.tmp 101, .const (.int .i64 8)], (some (100, false))⟩,
 ⟨(some 103), .pick, [.tmp 100, .const (.bool true), .tmp 102], none⟩,
 ⟨(some 104), .mov, [.tmp 103], none⟩,
 ⟨(some 105), .mov, [.tmp 6], (some (104, false))⟩,
 ⟨(some 106), .cmp .neq, [.tmp 105, .const (.int .i64 1)], (some (104, false))⟩,
 ⟨(some 107), .pick, [.tmp 104, .const (.bool true), .tmp 106], none⟩,
 ⟨(some 108), .mov, [.tmp 107], none⟩,
 ⟨(some 109), .mov, [.tmp 11], (some (108, false))⟩,
 ⟨(some 110), .cmp .neq, [.tmp 109, .const (.int .i64 2)], (some (108, false))⟩,
 ⟨(some 111), .pick, [.tmp 108, .const (.bool true), .tmp 110], none⟩] false)
 (.cond (.tmp 111)
 (.seq (.ops [
 ⟨(some 0), .mov, [.const (.bool false)], none⟩] false)
 .ret)
 .skip))
 (.seq (.seq (.ops [
 ⟨(some 112), .build [.nil, .nil, .nil] [], [], none⟩,
 ⟨(some 113), .call 18, [.tmp 112], none⟩,
 ⟨(some 114), .cmp .neq, [.tmp 113, .const (.int .i64 0)], none⟩,
 ⟨(some 115), .mov, [.tmp 114], none⟩,
 ⟨(some 116), .load 3 true, [.tmp 3], (some (115, false))⟩,
 ⟨(some 117), .call 18, [.tmp 116], (some (115, false))⟩,
 ⟨(some 118), .cmp .neq, [.tmp 117, .const (.int .i64 1)], (some (115, false))⟩,
 ⟨(some 119), .pick, [.tmp 115, .const (.bool true), .tmp 118], none⟩,
 ⟨(some 120), .mov, [.tmp 119], none⟩,
 ⟨(some 121), .load 3 true, [.tmp 8], (some (120, false))⟩,
 ⟨(some 122), .call 18, [.tmp 121], (some (120, false))⟩,
 ⟨(some 123), .cmp .neq, [.tmp 122, .const (.int .i64 2)], (some (120, false))⟩,
 ⟨(some 124), .pick, [.tmp 120, .const (.bool true), .tmp 123], none⟩,
 ⟨(some 125), .mov, [.tmp 124], none⟩,
 ⟨(some 126), .load 3 true, [.tmp 10], (some (125, false))⟩,
 ⟨(some 127), .call 13, [.tmp 126], (some (125, false))⟩,
 ⟨(some 128), .cmp .neq, [.tmp 127, .const (.int .i64 0)], (some (125, false))⟩,
 ⟨(some 129), .pick, [.tmp 125, .const (.bool true), .tmp 128], none⟩,
 ⟨(some 130), .mov, [.tmp 129], none⟩,
 ⟨(some 131), .load 3 true, [.tmp 10], (some (130, false))⟩,
 ⟨(some 132), .call 23, [.tmp 131, .const (.int .i64 1)], (some (130, false))⟩,
 ⟨(some 133), .call 40, [.const (.int .i64 1), .const (.int .i64 999)], (some (130, false))⟩,
 ⟨(some 134), .buildSl 37 7, [.tmp 133], (some (130, false))⟩,
 ⟨(some 135), .call 22, [.tmp 132, .tmp 134], (some (130, false))⟩,
 ⟨(some 136), .not, [.tmp 135], (some (130, false))⟩,
 ⟨(some 137), .pick, [.tmp 130, .const (.bool true), .tmp 136], none⟩,
 ⟨(some 138), .mov, [.tmp 137], none⟩,
 ⟨(some 139), .load 3 true, [.tmp 10], (some (138, false))⟩,
 ⟨(some 140), .call 23, [.tmp 139, .const (.int .i64 2)], (some (138, false))⟩,
 ⟨(some 141), .call 40, [.const (.int .i64 2), .const (.int .i64 500)], (some (138, false))⟩,
 ⟨(some 142), .buildSl 37 7, [.tmp 141], (some (138, false))⟩,
 ⟨(some 143), .call 22, [.tmp 140, .tmp 142], (some (138, false))⟩,
 ⟨(some 144), .not, [.tmp 143], (some (138, false))⟩,
 ⟨(some 145), .pick, [.tmp 138, .const (.bool true), .tmp 144], none⟩] false)
 (.cond (.tmp 145)
 (.seq (.ops [
 ⟨(some 0), .mov, [.const (.bool false)], none⟩] false)
 .ret)
 .skip))
 (.seq (.ops [
 ⟨(some 146), .faddr 1, [.tmp 8], none⟩,
 ⟨(some 147), .load 1 false, [.tmp 146], none⟩,
 ⟨(some 148), .build [.int .i64 0, .int .i64 0, .int .i64 0, .int .i64 0] [(0, 1), (1, 1), (2, 1), (3, 1)], [.const (.int .i64 101), .const (.int .i64 1), .const (.int .i64 2), .const (.int .i64 40)], none⟩,
 ⟨(some 149), .buildSl 72 4, [.tmp 148], none⟩,
 ⟨(some 150), .call 37, [.tmp 147, .tmp 149], none⟩,
 ⟨(some 0), .mov, [.tmp 150], none⟩] false)
 .ret))))))))))))⟩
theorem aliveLow : lowF Tryz.prog {} Tryz.f11 = some aliveIr := by kernel_rfl
def aliveS : Spec := spec Unit (fun _ => []) (fun _ => True) (fun _ => B true)
set_option maxHeartbeats 1000000 in
theorem aliveV : fnV Tryz.prog aliveIr aliveS := by
  intro _ _
  repeat' ((conv => whnf); (try dsimp only [setL, List.map_cons, List.map_nil, List.take, List.drop, SV.cells, constV, shift, St.new, St.put, kills, killI, Nat.reduceAdd]); first | (refine ⟨fun h => ?_, fun h => ?_⟩ <;> try (exfalso; first | omega | exact absurd h (by decide) | exact h rfl | exact absurd (show true = false from h) (by decide) | exact absurd (show false = true from h) (by decide))) | (refine ⟨_, begin_h, (bk0, 1000), s0, ⟨⟨rfl, rfl, rfl, trivial⟩, leV_refl _, trivial⟩, .inl rfl, rfl, ?_⟩; show norm (.tup [aB (beginB bk0 1000), I (beginE bk0 1000)]) _; rw [x1.1, x1.2]) | (refine ⟨_, begin_h, (bk1, 2000), s1, leVs_of_eq rfl, .inl rfl, rfl, ?_⟩; show norm (.tup [aB (beginB bk1 2000), I (beginE bk1 2000)]) _; rw [x2.1, x2.2]) | (refine ⟨_, ride_h, (1, 999), trivial, leVs_of_eq rfl, .inl rfl, rfl, ?_⟩; show norm (aD (rd 1 999)) _) | (refine ⟨_, ride_h, (2, 500), trivial, leVs_of_eq rfl, .inl rfl, rfl, ?_⟩; show norm (aD (rd 2 500)) _) | (refine ⟨_, ride_h, (2, 501), trivial, leVs_of_eq rfl, .inl rfl, rfl, ?_⟩; show norm (aD (rd 2 501)) _) | (refine ⟨_, ride_h, (3, 2000), trivial, leVs_of_eq rfl, .inl rfl, rfl, ?_⟩; show norm (aD (rd 3 2000)) _) | (refine ⟨_, enter_h, (bk2, rd 1 999), e2p, leVs_of_eq rfl, .inl rfl, rfl, ?_⟩; show norm (entX bk2 (rd 1 999)) _; rw [x3]) | (refine ⟨_, enter_h, (bk4, rd 2 500), e4p, leVs_of_eq rfl, .inl rfl, rfl, ?_⟩; show norm (entX bk4 (rd 2 500)) _; rw [x5]) | (refine ⟨_, enter_h, (bk5, rd 2 501), e5p, leVs_of_eq rfl, .inl rfl, rfl, ?_⟩; show norm (entX bk5 (rd 2 501)) _; rw [x6]) | (refine ⟨_, enter_h, (bk2, rd 3 2000), e2p, leVs_of_eq rfl, .inl rfl, rfl, ?_⟩; show norm (entX bk2 (rd 3 2000)) _; rw [x8]) | (refine ⟨_, close_h, (bk3, 1, duX, reX), c3p, leVs_of_eq rfl, .inl rfl, rfl, ?_⟩; show norm (clsX bk3 1 duX reX) _; rw [x4]) | (refine ⟨_, close_h, (bk2, 2, [], []), c2p, ⟨leV_refl _, leV_refl _, rfl, rfl, trivial⟩, .inl rfl, rfl, ?_⟩; show norm (clsX bk2 2 [] []) _; rw [x7]) | (refine ⟨_, First_h, bk0, (okB_sm s0), ⟨⟨rfl, rfl, rfl, trivial⟩, trivial⟩, .inl rfl, rfl, ?_⟩; show norm (I (firstC bk0.ps)) _; rw [f0]) | (refine ⟨_, First_h, bk2, (okB_sm s2), leVs_of_eq rfl, .inl rfl, rfl, ?_⟩; show norm (I (firstC bk2.ps)) _; rw [f2]) | (refine ⟨_, First_h, bk4, (okB_sm s4), leVs_of_eq rfl, .inl rfl, rfl, ?_⟩; show norm (I (firstC bk4.ps)) _; rw [f4]) | (refine ⟨_, Right_h, bk5, (okB_sm s5), leVs_of_eq rfl, .inl rfl, rfl, ?_⟩; show norm (I (rightB bk5)) _; rw [r5]) | (refine ⟨_, rides_h, (bk5, 1), rp5, leVs_of_eq rfl, .inl rfl, rfl, ?_⟩; show norm (L 7 ((ridesOf bk5 1).map encD)) _; rw [ri1]) | (refine ⟨_, rides_h, (bk5, 2), rp5, leVs_of_eq rfl, .inl rfl, rfl, ?_⟩; show norm (L 7 ((ridesOf bk5 2).map encD)) _; rw [ri2]) | (refine ⟨_, sameD_h, ([rd 1 999], [rd 1 999]), (Nat.le_of_ble_eq_true rfl), leVs_of_eq rfl, .inl rfl, rfl, ?_⟩; show norm (B (decide (([rd 1 999] : List Ride) = [rd 1 999]))) _; rw [decide_eq_true (rfl : ([rd 1 999] : List Ride) = _)]) | (refine ⟨_, sameD_h, ([rd 2 500], [rd 2 500]), (Nat.le_of_ble_eq_true rfl), leVs_of_eq rfl, .inl rfl, rfl, ?_⟩; show norm (B (decide (([rd 2 500] : List Ride) = [rd 2 500]))) _; rw [decide_eq_true (rfl : ([rd 2 500] : List Ride) = _)]) | (refine ⟨_, sameO_h, (bk4.po, [⟨101, 1, 2, 40⟩]), (Nat.le_of_ble_eq_true rfl), leVs_of_eq rfl, .inl rfl, rfl, ?_⟩; show norm (B (decide (bk4.po = [⟨101, 1, 2, 40⟩]))) _; rw [decide_eq_true po4]) | exact ⟨[], rfl, trivial, rfl⟩ | fail)
theorem alive_h : Holds Tryz.prog 11 aliveS := holds_of mix Tryz.func11 aliveLow (fun _ => rfl) aliveV

end Go.Proofs.YtpkhannkbafimaaGreat
