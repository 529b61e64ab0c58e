/- Revenue: the examples of the chapter hold. -/
import Derived.Test.YtbglmocgijlomaaTP
namespace Go.Proofs.Ytbglmocgijlomaa
open Go.RowKit

/-! skiarea/skiarealaw35.alive -/
def aliveIr : IFn := ⟨95, [.tmp 0],
  (.seq (.ops [
    ⟨(some 0), .mov, [.const (.bool false)], none⟩] false)
  (.seq (.ops [
    ⟨(some 9), .call 24, [], none⟩,
    ⟨(some 1), .alloc [.nil, .nil, .nil, .nil, .nil, .nil], [], none⟩,
    ⟨none, .store 6, [.tmp 1, .tmp 9], none⟩] false)
  (.seq (.ops [
    ⟨(some 10), .faddr 0, [.tmp 1], none⟩,
    ⟨(some 11), .load 4 true, [.tmp 10], none⟩,
    ⟨(some 12), .faddr 4, [.tmp 1], none⟩,
    ⟨(some 13), .load 1 false, [.tmp 12], none⟩,
    ⟨(some 14), .faddr 5, [.tmp 1], none⟩,
    ⟨(some 15), .load 1 false, [.tmp 14], none⟩,
    ⟨(some 16), .build [.int .i64 0, .int .i64 0, .int .i64 0, .int .i64 0, .int .i64 0, .int .i64 0] [(0, 1), (1, 1), (2, 1), (4, 1), (5, 1)], [.const (.int .i64 7), .const (.int .i64 1), .const (.int .i64 3), .const (.int .i64 1000), .const (.int .i64 100)], none⟩,
    ⟨(some 17), .call 18, [.tmp 11, .tmp 13, .tmp 15, .tmp 16], none⟩,
    ⟨(some 2), .mov, [.tmp 17], none⟩] false)
  (.seq (.ops [
    ⟨(some 18), .faddr 0, [.tmp 1], none⟩,
    ⟨(some 19), .load 4 true, [.tmp 18], none⟩,
    ⟨(some 20), .faddr 4, [.tmp 1], none⟩,
    ⟨(some 21), .load 1 false, [.tmp 20], none⟩,
    ⟨(some 22), .faddr 5, [.tmp 1], none⟩,
    ⟨(some 23), .load 1 false, [.tmp 22], none⟩,
    ⟨(some 24), .build [.int .i64 0, .int .i64 0, .int .i64 0, .int .i64 0, .int .i64 0, .int .i64 0] [(0, 1), (1, 1), (2, 1), (4, 1), (5, 1)], [.const (.int .i64 8), .const (.int .i64 1), .const (.int .i64 3), .const (.int .i64 1000), .const (.int .i64 100)], none⟩,
    ⟨(some 25), .call 18, [.tmp 19, .tmp 21, .tmp 23, .tmp 24], none⟩,
    ⟨(some 3), .mov, [.tmp 25], none⟩] false)
  (.seq (.ops [
    ⟨(some 27), .faddr 0, [.tmp 1], none⟩,
    ⟨(some 28), .load 4 true, [.tmp 27], none⟩,
    ⟨(some 29), .faddr 4, [.tmp 1], none⟩,
    ⟨(some 30), .load 1 false, [.tmp 29], none⟩,
    ⟨(some 31), .faddr 5, [.tmp 1], none⟩,
    ⟨(some 32), .load 1 false, [.tmp 31], none⟩,
    ⟨(some 33), .build [.int .i64 0, .int .i64 0, .int .i64 0, .int .i64 0, .int .i64 0, .int .i64 0] [(0, 1), (1, 1), (2, 1), (4, 1)], [.const (.int .i64 7), .const (.int .i64 1), .const (.int .i64 1), .const (.int .i64 45)], none⟩,
    ⟨(some 34), .build [.int .i64 0, .int .i64 0, .int .i64 0, .int .i64 0, .int .i64 0, .int .i64 0] [(0, 1), (1, 1), (2, 1), (4, 1), (5, 1)], [.const (.int .i64 8), .const (.int .i64 1), .const (.int .i64 2), .const (.int .i64 5), .const (.int .i64 5)], none⟩,
    ⟨(some 35), .buildSl 42 6, [.tmp 33, .tmp 34], none⟩,
    ⟨(some 36), .call 20, [.tmp 28, .tmp 30, .tmp 32, .tmp 35], none⟩,
    ⟨(some 26), .mov, [.tmp 36], none⟩,
    ⟨(some 37), .extract 0, [.tmp 26], none⟩,
    ⟨(some 38), .extract 1, [.tmp 26], none⟩,
    ⟨(some 4), .mov, [.tmp 37], none⟩,
    ⟨(some 5), .mov, [.tmp 38], none⟩] false)
  (.seq (.ops [
    ⟨(some 40), .faddr 0, [.tmp 1], none⟩,
    ⟨(some 41), .load 4 true, [.tmp 40], none⟩,
    ⟨(some 42), .faddr 4, [.tmp 1], none⟩,
    ⟨(some 43), .load 1 false, [.tmp 42], none⟩,
    ⟨(some 44), .faddr 5, [.tmp 1], none⟩,
    ⟨(some 45), .load 1 false, [.tmp 44], none⟩,
    ⟨(some 46), .build [.int .i64 0, .int .i64 0, .int .i64 0, .int .i64 0, .int .i64 0, .int .i64 0] [(0, 1), (1, 1), (2, 1), (5, 1)], [.const (.int .i64 7), .const (.int .i64 1), .const (.int .i64 1), .const (.int .i64 1)], none⟩,
    ⟨(some 47), .buildSl 42 6, [.tmp 46], none⟩,
    ⟨(some 48), .call 20, [.tmp 41, .tmp 43, .tmp 45, .tmp 47], none⟩,
    ⟨(some 39), .mov, [.tmp 48], none⟩,
    ⟨(some 49), .extract 0, [.tmp 39], none⟩,
    ⟨(some 50), .extract 1, [.tmp 39], none⟩,
    ⟨(some 6), .mov, [.tmp 49], none⟩,
    ⟨(some 7), .mov, [.tmp 50], none⟩] false)
  (.seq (.ops [
    ⟨(some 51), .faddr 0, [.tmp 1], none⟩,
    ⟨(some 52), .load 4 true, [.tmp 51], none⟩,
    ⟨(some 53), .faddr 4, [.tmp 1], none⟩,
    ⟨(some 54), .load 1 false, [.tmp 53], none⟩,
    ⟨(some 55), .faddr 5, [.tmp 1], none⟩,
    ⟨(some 56), .load 1 false, [.tmp 55], none⟩,
    ⟨(some 57), .call 15, [.tmp 52, .tmp 54, .tmp 56, .const (.int .i64 7)], none⟩,
    ⟨(some 8), .mov, [.tmp 57], none⟩] false)
  (.seq (.seq (.ops [
    ⟨(some 58), .mov, [.tmp 5], none⟩,
    ⟨(some 59), .cmp .neq, [.tmp 58, .const (.int .i64 0)], none⟩,
    ⟨(some 60), .mov, [.tmp 59], none⟩,
    ⟨(some 61), .mov, [.tmp 7], (some (60, false))⟩,
    ⟨(some 62), .cmp .neq, [.tmp 61, .const (.int .i64 1)], (some (60, false))⟩,
    ⟨(some 63), .pick, [.tmp 60, .const (.bool true), .tmp 62], none⟩,
    ⟨(some 64), .mov, [.tmp 63], none⟩,
    ⟨(some 65), .mov, [.tmp 8], (some (64, false))⟩,
    ⟨(some 66), .buildSl 3 1, [.const (.int .i64 30), .const (.int .i64 15), .const (.int .i64 0), .const (.int .i64 0), .const (.int .i64 0), .const (.int .i64 0), .const (.int .i64 0), .const (.int .i64 0)], (some (64, false))⟩,
    ⟨(some 67), .call 14, [.tmp 65, .tmp 66], (some (64, false))⟩,
    ⟨(some 68), .not, [.tmp 67], (some (64, false))⟩,
    ⟨(some 69), .pick, [.tmp 64, .const (.bool true), .tmp 68], none⟩,
    ⟨(some 70), .mov, [.tmp 69], none⟩,
    ⟨(some 71), .build [.int .i64 0, .int .i64 0, .int .i64 0, .int .i64 0, .int .i64 0, .int .i64 0] [], [], (some (70, false))⟩,
    ⟨(some 72), .buildSl 42 6, [.tmp 71], (some (70, false))⟩,
    ⟨(some 73), .call 11, [.tmp 72], (some (70, false))⟩,
    ⟨(some 74), .cmp .neq, [.tmp 73, .const (.int .i64 2)], (some (70, false))⟩,
    ⟨(some 75), .pick, [.tmp 70, .const (.bool true), .tmp 74], none⟩] false)
  (.cond (.tmp 75)
    (.seq (.ops [
      ⟨(some 0), .mov, [.const (.bool false)], none⟩] false)
    .ret)
    .skip))
  (.seq (.ops [
    ⟨(some 76), .mov, [.tmp 2], none⟩,
    ⟨(some 77), .build [.int .i64 0, .int .i64 0] [(0, 1), (1, 1)], [.const (.int .i64 1), .const (.int .i64 600)], none⟩,
    ⟨(some 78), .build [.int .i64 0, .int .i64 0] [(0, 1), (1, 1)], [.const (.int .i64 2), .const (.int .i64 300)], none⟩,
    ⟨(some 79), .build [.int .i64 0, .int .i64 0] [(0, 1), (1, 1)], [.const (.int .i64 3), .const (.int .i64 100)], none⟩,
    ⟨(some 80), .buildSl 56 2, [.tmp 77, .tmp 78, .tmp 79], none⟩,
    ⟨(some 81), .call 17, [.tmp 76, .tmp 80], none⟩,
    ⟨(some 82), .mov, [.tmp 81], none⟩,
    ⟨(some 83), .mov, [.tmp 3], (some (82, true))⟩,
    ⟨(some 84), .build [.int .i64 0, .int .i64 0] [(0, 1), (1, 1)], [.const (.int .i64 3), .const (.int .i64 1000)], (some (82, true))⟩,
    ⟨(some 85), .buildSl 56 2, [.tmp 84], (some (82, true))⟩,
    ⟨(some 86), .call 17, [.tmp 83, .tmp 85], (some (82, true))⟩,
    ⟨(some 87), .pick, [.tmp 82, .tmp 86, .const (.bool false)], none⟩,
    ⟨(some 88), .mov, [.tmp 87], none⟩,
    ⟨(some 89), .mov, [.tmp 4], (some (88, true))⟩,
    ⟨(some 90), .build [.int .i64 0, .int .i64 0] [(0, 1), (1, 1)], [.const (.int .i64 1), .const (.int .i64 30)], (some (88, true))⟩,
    ⟨(some 91), .build [.int .i64 0, .int .i64 0] [(0, 1), (1, 1)], [.const (.int .i64 2), .const (.int .i64 20)], (some (88, true))⟩,
    ⟨(some 92), .buildSl 56 2, [.tmp 90, .tmp 91], (some (88, true))⟩,
    ⟨(some 93), .call 17, [.tmp 89, .tmp 92], (some (88, true))⟩,
    ⟨(some 94), .pick, [.tmp 88, .tmp 93, .const (.bool false)], none⟩,
    ⟨(some 0), .mov, [.tmp 94], none⟩] false)
  .ret)))))))))⟩
theorem aliveLow : lowF Try.prog {} Try.f10 = some aliveIr := by kernel_rfl
def aliveS : Spec := spec Unit (fun _ => []) (fun _ => True) (fun _ => B true)
set_option maxHeartbeats 4000000 in
theorem aliveV : fnV Try.prog aliveIr aliveS := by
  intro _ _
  repeat' ((conv => whnf); (try dsimp only [setL, List.map_cons, List.map_nil, List.take, List.drop, SV.cells, constV, shift, List.set, St.new, St.put, Int.reduceToNat, Nat.reduceAdd, Int.toNat_one, List.cons_append, List.nil_append, List.length_cons, List.length_nil]); first | (refine ⟨fun h => ?_, fun h => ?_⟩ <;> try (exfalso; first | omega | exact absurd h (by decide) | exact h rfl)) | (refine ⟨_, example_h, (), trivial, leVs_of_eq rfl, .inl rfl, rfl, ?_⟩; show norm (exampleS.res ()) _) | (refine ⟨_, ofX_h, s7, s7P, leVs_of_eq rfl, .inl rfl, rfl, ?_⟩; show norm (L 2 ((ofL exM exT exD s7).map encS)) _; rw [o7]) | (refine ⟨_, ofX_h, s8, s8P, leVs_of_eq rfl, .inl rfl, rfl, ?_⟩; show norm (L 2 ((ofL exM exT exD s8).map encS)) _; rw [o8]) | (refine ⟨_, allX_h, sL, (by decide), leVs_of_eq rfl, .inl rfl, rfl, ?_⟩; show norm (.tup [L 2 ((allR exM exT exD sL).map encS), I (salesE sL)]) _; rw [oL, sL0]) | (refine ⟨_, allX_h, sX, (by decide), leVs_of_eq rfl, .inl rfl, rfl, ?_⟩; show norm (.tup [L 2 ((allR exM exT exD sX).map encS), I (salesE sX)]) _; rw [oX, sX1]) | (refine ⟨_, ptX_h, 7, trivial, leVs_of_eq rfl, .inl rfl, rfl, ?_⟩; show norm (L 1 ((ptsAll exM exT exD 7).map e1)) _; rw [p7]) | (refine ⟨_, sright_h, sZ, (by show sZ.length ≤ 1000000; decide), leVs_of_eq rfl, .inl rfl, rfl, ?_⟩; show norm (I (salesE sZ)) _; rw [sZ2]) | (refine ⟨_, sameI_h, ([30, 15, 0, 0, 0, 0, 0, 0], [30, 15, 0, 0, 0, 0, 0, 0]), (by show ([30, 15, 0, 0, 0, 0, 0, 0] : List Int).length ≤ 9223372036854775807; decide), leVs_of_eq rfl, .inl rfl, rfl, ?_⟩; show norm (B (decide (([30, 15, 0, 0, 0, 0, 0, 0] : List Int) = [30, 15, 0, 0, 0, 0, 0, 0]))) _; rw [decide_eq_true rfl]) | (refine ⟨_, sameS_h, ([⟨1, 600⟩, ⟨2, 300⟩, ⟨3, 100⟩], [⟨1, 600⟩, ⟨2, 300⟩, ⟨3, 100⟩]), (by show ([⟨1, 600⟩, ⟨2, 300⟩, ⟨3, 100⟩] : List Share).length ≤ 9223372036854775807; decide), leVs_of_eq rfl, .inl rfl, rfl, ?_⟩; show norm (B (decide (([⟨1, 600⟩, ⟨2, 300⟩, ⟨3, 100⟩] : List Share) = [⟨1, 600⟩, ⟨2, 300⟩, ⟨3, 100⟩]))) _; rw [decide_eq_true rfl]) | (refine ⟨_, sameS_h, ([⟨3, 1000⟩], [⟨3, 1000⟩]), (by show ([⟨3, 1000⟩] : List Share).length ≤ 9223372036854775807; decide), leVs_of_eq rfl, .inl rfl, rfl, ?_⟩; show norm (B (decide (([⟨3, 1000⟩] : List Share) = [⟨3, 1000⟩]))) _; rw [decide_eq_true rfl]) | (refine ⟨_, sameS_h, ([⟨1, 30⟩, ⟨2, 20⟩], [⟨1, 30⟩, ⟨2, 20⟩]), (by show ([⟨1, 30⟩, ⟨2, 20⟩] : List Share).length ≤ 9223372036854775807; decide), leVs_of_eq rfl, .inl rfl, rfl, ?_⟩; show norm (B (decide (([⟨1, 30⟩, ⟨2, 20⟩] : List Share) = [⟨1, 30⟩, ⟨2, 20⟩]))) _; rw [decide_eq_true rfl]) | exact ⟨[], rfl, trivial, rfl⟩ | fail)
theorem alive_h : Holds Try.prog 10 aliveS := holds_of mix Try.func10 aliveLow (fun _ => rfl) aliveV

end Go.Proofs.Ytbglmocgijlomaa
